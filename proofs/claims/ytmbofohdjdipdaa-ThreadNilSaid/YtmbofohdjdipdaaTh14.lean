/-
  Contracts of package thread: whether a machine is stuck; runs of a machine.
-/
import Derived.Test.YtmbofohdjdipdaaTh13
import Derived.Test.YtmbofohdjdipdaaTrPure
namespace Go.Proofs.Ytmbofohdjdipdaa
open Go.RowKit

def stuckB (ws : List Int) (ts : List Thr) : Bool := (ts.any fun t => !t.x.done) && (ts.all fun t => t.x.done || waitsB ws t.x)
theorem any_snoc {α : Type} (p : α → Bool) (l : List α) (k : Nat) (x : α) (hx : l[k]? = some x) : (l.take (k + 1)).any p = ((l.take k).any p || p x) := by
  rw [List.take_add_one, hx]
  simp
theorem all_snocB {α : Type} (p : α → Bool) (l : List α) (k : Nat) (x : α) (hx : l[k]? = some x) : (l.take (k + 1)).all p = ((l.take k).all p && p x) := by
  rw [List.take_add_one, hx]
  simp
theorem waits_any (M : MaR) (ws : List Int) (j : Nat) (q : ThR) (w : World) (h : MaAt w M ws) (hq : M.qs[j]? = some q) (hsh : q.t.x.shares = []) :
    Calls Try.prog 36 #[.pointer (some ⟨M.r, 0, none⟩), .int .i64 j] w (MaSame w M ws (.bool (waitsB ws q.t.x))) := by
  unfold waitsB
  cases hd : q.t.x.done
  · exact waits_run M ws j q w h hq hd hsh
  · exact (waits_done M ws j q w h hq hd).mono fun e w' ⟨h1, h2⟩ => ⟨h1, h2 ▸ h, h2 ▸ Ch.refl _ _⟩
set_option maxHeartbeats 1000000 in
theorem stuck_ok (M : MaR) (ws : List Int) (w : World) (h : MaAt w M ws) (hsh : ∀ q ∈ M.qs, q.t.x.shares = []) :
    Calls Try.prog 37 #[.pointer (some ⟨M.r, 0, none⟩)] w (MaSame w M ws (.bool (stuckB ws (M.qs.map (·.t))))) := by
  have hth := mathreads_ok M ws w h
  have hn64 := h.n64
  have HSH := Lib.hid hsh
  clear hsh
  go_enter Try.func37, Try.ntmps37
  go_wp2_with (go_at_call 38; refine hth.mono ?_; rintro e w1 ⟨rfl, rfl⟩)
  go_loopw [3, 7] (fun v3 v7 wr => ∃ k : Nat, k ≤ M.qs.length ∧ v7 = .int .i64 k ∧ v3 = .bool (((M.qs.map (·.t)).take k).any fun t => !t.x.done) ∧ (((M.qs.map (·.t)).take k).all fun t => t.x.done || waitsB ws t.x) = true ∧ MaAt wr M ws ∧ Ch (fun k => k = M.b ∨ k = M.g) w wr) (fun _ v7 _ => M.qs.length - (intOf v7).toNat)
  case atStart => exact ⟨0, Nat.zero_le _, rfl, rfl, rfl, h, Ch.refl _ _⟩
  case round =>
    obtain ⟨k, hk, rfl, rfl, hall, hM, hC⟩ := hrel
    have HALL := Lib.hid hall
    clear hall
    by_cases hlt : k < M.qs.length
    · obtain ⟨q, hq⟩ : ∃ q, M.qs[k]? = some q := ⟨_, List.getElem?_eq_getElem hlt⟩
      have hqt : (M.qs.map (·.t))[k]? = some q.t := by rw [List.getElem?_map, hq]; rfl
      have hdn := madone_in M ws k q wr hM hq
      have hwt := waits_any M ws k q wr hM hq (HSH.out q (List.mem_of_getElem? hq))
      have HA := Lib.hid (any_snoc (fun t : Thr => !t.x.done) _ k q.t hqt)
      have HB := Lib.hid (all_snocB (fun t : Thr => t.x.done || waitsB ws t.x) _ k q.t hqt)
      have HQ := Lib.hid hqt
      have i1 : (0 : Int) ≤ k := Int.natCast_nonneg _
      have i2 : (k : Int) < M.qs.length := by omega
      clear hq hqt
      cases hd : q.t.x.done
      · rw [hd] at hdn
        have HD := Lib.hid hd
        clear hd
        cases hw : waitsB ws q.t.x
        · rw [hw] at hwt
          have HW := Lib.hid hw
          clear hw
          have hst : stuckB ws (M.qs.map (·.t)) = false := by
            unfold stuckB
            rw [all_bad _ _ k q.t HQ.out (by rw [HD.out, HW.out]; rfl)]
            simp
          have HST := Lib.hid hst
          clear hst
          go_wp2_with (first | (go_at_call 28; refine hdn.mono ?_; rintro e w1 ⟨rfl, rfl⟩) | (go_at_call 36; refine hwt.mono ?_; rintro e w2 ⟨rfl, hM2, hC2⟩))
          go_ret
          exact ⟨by rw [HST.out]; rfl, hM2, hC.trans hC2 (fun _ _ e => e)⟩
        · rw [hw] at hwt
          have HW := Lib.hid hw
          clear hw
          go_wp2_with (first | (go_at_call 28; refine hdn.mono ?_; rintro e w1 ⟨rfl, rfl⟩) | (go_at_call 36; refine hwt.mono ?_; rintro e w2 ⟨rfl, hM2, hC2⟩))
          go_roundw
          case rel => exact ⟨k + 1, by omega, by go_num, by rw [HA.out, HD.out]; simp, by rw [HB.out, HALL.out, HW.out]; simp, hM2, hC.trans hC2 (fun _ _ e => e)⟩
          case measure => simp [intOf]; omega
      · rw [hd] at hdn
        have HD := Lib.hid hd
        clear hd
        generalize hgen : (((M.qs.map (·.t)).take k).any fun t => !t.x.done) = op
        have HG := Lib.hid hgen
        clear hgen
        go_wp2_with (go_at_call 28; refine hdn.mono ?_; rintro e w1 ⟨rfl, rfl⟩)
        go_roundw
        case rel => exact ⟨k + 1, by omega, by go_num, by rw [HA.out, HD.out, HG.out]; simp, by rw [HB.out, HALL.out, HD.out]; simp, hM, hC⟩
        case measure => simp [intOf]; omega
    · obtain rfl : k = M.qs.length := by omega
      have hst : stuckB ws (M.qs.map (·.t)) = ((M.qs.map (·.t)).take M.qs.length).any fun t => !t.x.done := by
        have h1 := HALL.out
        rw [List.take_of_length_le (by simp)] at h1 ⊢
        unfold stuckB
        rw [h1]
        simp
      have HST := Lib.hid hst
      clear hst HALL
      generalize (((M.qs.map (·.t)).take M.qs.length).any fun t => !t.x.done) = op at *
      go_wp2_with fail
      go_ret
      exact ⟨by rw [HST.out]; rfl, hM, hC⟩
end Go.Proofs.Ytmbofohdjdipdaa
