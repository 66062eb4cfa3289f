/-
  Contracts of package queue, seventh part: New, Next, Copy.
-/
import Derived.Test.YtbpkedghnjiehaaQueue6
import Derived.Deep.DeepCutAuto
namespace Go.Proofs.Ytbpkedghnjiehaa
open Go.RowKit

def NewP (w : World) (n : Nat) (size : Int) (e : Ending) (w' : World) : Prop :=
  ∃ b g c, e = .returned (.tuple #[.pointer (some ⟨b, 0, none⟩), .int .i64 0]) ∧ PkAt w' b g c size 0 (zeros n) ∧ w.heap.size ≤ b ∧ w.heap.size ≤ g ∧ Below w.heap.size w w'
theorem pnew_ok (n : Nat) (size : Int) (w : World) (ht : thrB n = true) (h1 : (n : Int) ≤ size) (h2 : size ≤ 100000) :
    Calls Try.prog 24 #[.int .i64 n, .int .i64 size] w (NewP w n size) := by
  have hn := thr_pos ht
  have hmk := fun W => make_int n (by omega) W
  have d1 : decide (size < n) = false := decide_eq_false (by omega)
  have d2 : decide (100000 < size) = false := decide_eq_false (by omega)
  go_enter Try.func24, Try.ntmps24
  go_wp2_with (go_at_call 36; refine (some_yes _ _ ht).mono ?_; rintro e w' ⟨rfl, rfl⟩)
  go_ret2
  have hg : Blk (w.alloc (.cells (ints (zeros n)).toArray 3)) w.heap.size 3 (ints (zeros n)) := Blk.new _ _ _
  have hb := Blk.new (w.alloc (.cells (ints (zeros n)).toArray 3)) 54 [.int .i64 size, .int .i64 0, .slice (some ⟨w.heap.size, 0, none⟩) n n]
  rw [World.size_alloc] at hb
  exact ⟨w.heap.size + 1, w.heap.size, n, rfl, ⟨by rw [zeros_length]; exact hb, ⟨[], by rw [List.append_nil]; exact hg.keep ((Ch.refl (fun _ => False) _).alloc _) (fun e => e)⟩, by rw [zeros_length]; omega, by rw [zeros_length]; omega, by rw [zeros_length]; omega, by omega,
    by rw [zeros_length]; omega, fun x hx => by rw [List.eq_of_mem_replicate hx]; omega⟩, by omega, Nat.le_refl _, by (repeat' (first | (with_reducible exact Below.refl _ _) | (with_reducible assumption) | (with_reducible refine Below.alloc ?_ ?_ _) | (with_reducible refine Below.drew ?_) | (with_reducible refine below_drewN ?_ _) | (with_reducible refine Below.setCell ?_ ?_ _) | (with_reducible refine Below.trans ?_ (Below.mono (by assumption) ?_)) | (first | go_size | (with_reducible exact Below.size (by assumption)) | (with_reducible exact Nat.le_trans (Below.size (by assumption)) (Below.size (by assumption))) | (refine Nat.le_trans (Below.size (by assumption)) ?_; go_size))))⟩
theorem pnew_bad (n size : Int) (w : World) (h : thrB n = false ∨ size < n ∨ 100000 < size) :
    Calls Try.prog 24 #[.int .i64 n, .int .i64 size] w fun e w' => e = .returned (.tuple #[.pointer none, .int .i64 2]) ∧ w = w' := by
  cases ht : thrB n with
  | false =>
    clear h
    go_enter Try.func24, Try.ntmps24
    go_wp2_with (go_at_call 36; refine (some_no _ _ ht).mono ?_; rintro e w' ⟨rfl, rfl⟩)
    go_ret2
    exact ⟨rfl, rfl⟩
  | true =>
    by_cases h1 : size < n
    · have d1 : decide (size < n) = true := decide_eq_true h1
      clear h
      go_enter Try.func24, Try.ntmps24
      go_wp2_with (go_at_call 36; refine (some_yes _ _ ht).mono ?_; rintro e w' ⟨rfl, rfl⟩)
      go_ret2
      exact ⟨rfl, rfl⟩
    · have h2 : 100000 < size := by rw [ht] at h; rcases h with h | h | h; cases h; omega; exact h
      have d1 : decide (size < n) = false := decide_eq_false h1
      have d2 : decide (100000 < size) = true := decide_eq_true h2
      clear h
      go_enter Try.func24, Try.ntmps24
      go_wp2_with (go_at_call 36; refine (some_yes _ _ ht).mono ?_; rintro e w' ⟨rfl, rfl⟩)
      go_ret2
      exact ⟨rfl, rfl⟩

/-! ### Next -/
def NextP (w : World) (b g c : Nat) (size : Int) (picks : Nat) (ag : List Int) (want : Int) (e : Ending) (w' : World) : Prop :=
  ∃ (d0 p : Nat), First ag ag.length d0 ∧ (p : Int) = (if urgB ag ag.length size then (d0 : Int) else want) ∧ e = .returned (.tuple #[.int .i64 p, .int .i64 0]) ∧ PkAt w' b g c size (picks + 1) ((ag.map (· + 1)).set p 0) ∧ Ch (fun j => j = b ∨ j = g) w w'
theorem set_incL (ag : List Int) (k : Nat) (sp : List Value) (hk : k < ag.length) : (ints (incL ag k) ++ sp).set k (.int .i64 (ag.getD k 0 + 1)) = ints (incL ag (k + 1)) ++ sp := by
  rw [List.set_append_left _ _ (by rw [ints_length, incL_length]; exact hk), ints_set, incL_succ]
set_option maxRecDepth 100000 in
set_option maxHeartbeats 4000000 in
theorem pnext_ok (b g c : Nat) (size : Int) (picks : Nat) (ag : List Int) (n : Nat) (want : Int) (w : World) (h : PkAt w b g c size picks ag) (hn : ag.length = n) (hm : n ≤ 19) (hp : picks ≤ 1000000) (w0 : 0 ≤ want) (w1 : want < n) :
    Calls Try.prog 27 #[.pointer (some ⟨b, 0, none⟩), .int .i64 want] w (NextP w b g c size picks ag want) := by
  have hlo := h.lo
  have hsz := h.sz
  have hlt := h.lt
  have hcap := h.cap
  have hcapm := h.capm
  have h2 := h.c2
  have hne := h.ne
  have hhi := h.hi
  rw [hn] at h2 hcap hlo hsz hhi
  have HN := Lib.hid hn
  have d1 : decide (want < 0) = false := decide_eq_false (by omega)
  have d2 : decide ((n : Int) ≤ want) = false := decide_eq_false (by omega)
  have hbl : b < w.heap.size := hlt.1
  clear hn hlt
  go_enter Try.func27, Try.ntmps27
  go_wp2_with (go_at_call 42; refine (pzero_ok b g c size picks ag _ h).mono ?_; rintro e w' ⟨rfl, rfl⟩)
  refine (urgent_ok b g c size picks ag n w h HN.out hm hp).mono ?_
  rintro e w2 ⟨d0, hF, rfl, hB2⟩
  obtain ⟨U, hU⟩ : ∃ U, urgB ag n size = U := ⟨_, rfl⟩
  rw [hU]
  have HU := Lib.hid hU
  have hP2 := h.below hB2
  clear hU h2
  have hd0 := hF.lt
  go_upto_if 29 with fail
  go_cut [1] (fun s1 wx => ∃ p : Nat, s1 = .int .i64 p ∧ p < n ∧ (p : Int) = (if U then (d0 : Int) else want) ∧ wx = w2)
  case first =>
    cases U
    · go_wp2_with fail
      go_meet
      exact ⟨want.toNat, val_int (by omega), by omega, by simp; omega, by first | rfl | trivial⟩
    · go_wp2_with fail
      go_meet
      exact ⟨d0, rfl, by omega, by simp, by first | rfl | trivial⟩
  case rest =>
    obtain ⟨p, rfl, hpn, hpp, rfl⟩ := hcut
    have HPP := Lib.hid hpp
    have p2 := hP2.c2
    rw [HN.out] at p2
    clear hpp d1 d2 w0 w1
    go_wp2_with fail
    go_loopw [36] (fun v wr => ∃ (k : Nat), v = .int .i64 k ∧ k ≤ n ∧ Blk wr b 54 [.int .i64 size, .int .i64 picks, .slice (some ⟨g, 0, none⟩) n c] ∧ (∃ sp, Blk wr g 3 (ints (incL ag k) ++ sp)) ∧ Ch (fun j => j = b ∨ j = g) w wr) (fun v _ => n - (intOf v).toNat)
    case atStart =>
      obtain ⟨sp, hr⟩ := hP2.row
      refine ⟨0, rfl, Nat.zero_le _, by have := hP2.hd; rwa [HN.out] at this, ⟨sp, by rw [incL_zero]; exact hr⟩, Ch.of_below hB2 _⟩
    case round =>
      obtain ⟨k, rfl, hk, hD, ⟨sp, hR⟩, hC⟩ := hrel
      have c2 := hD.cell 2
      by_cases hlt : k < n
      · have hbd := h.bd (i := k) (by rw [HN.out]; exact hlt)
        have hcc := hR.cell k
        rw [List.getElem?_append_left (by rw [ints_length, incL_length, HN.out]; exact hlt), ints_get (incL_get ag k (by rw [HN.out]; exact hlt))] at hcc
        have hfz := hR.frozen k
        have hset := hR.set k (.int .i64 (ag.getD k 0 + 1))
        rw [set_incL ag k sp (by rw [HN.out]; exact hlt)] at hset
        have HSET := Lib.hid hset
        have hC2 := hC.setCell (p := ⟨g, k, none⟩) (.inl (.inr rfl)) (.int .i64 (ag.getD k 0 + 1))
        have hD2 := hD.keep ((Ch.refl (fun j => j = g) wr).setCell (p := ⟨g, k, none⟩) (.inl rfl) (.int .i64 (ag.getD k 0 + 1))) hne
        generalize ag.getD k 0 = x at *
        have i1 : (0 : Int) ≤ k := Int.natCast_nonneg _
        have i2 : (k : Int) < n := by omega
        clear hset
        go_wp2_with fail
        go_roundw
        case rel => exact ⟨k + 1, by go_num, by omega, hD2, ⟨sp, HSET.out⟩, hC2⟩
        case measure => simp [intOf]; omega
      · obtain rfl : k = n := by omega
        have hfull := incL_full ag
        rw [HN.out] at hfull
        rw [hfull] at hR
        have HFULL := Lib.hid hfull
        have hcc := hR.cell p
        have hlm : (ag.map (· + 1)).length = k := by rw [List.length_map, HN.out]
        rw [List.getElem?_append_left (by rw [ints_length, hlm]; exact hpn), ints_at _ p (by rw [hlm]; exact hpn)] at hcc
        have hfz := hR.frozen p
        have hset := hR.set p (.int .i64 0)
        rw [List.set_append_left _ _ (by rw [ints_length, hlm]; exact hpn), ints_set] at hset
        have hC2 := hC.setCell (p := ⟨g, p, none⟩) (.inl (.inr rfl)) (.int .i64 0)
        have hD2 := hD.keep ((Ch.refl (fun j => j = g) wr).setCell (p := ⟨g, p, none⟩) (.inl rfl) (.int .i64 0)) hne
        have c1 := hD2.cell 1
        have f1 := hD2.frozen 1
        have hC3 := hC2.setCell (p := ⟨b, 1, none⟩) (.inl (.inl rfl)) (.int .i64 ((picks : Int) + 1))
        have hD3 := hD2.set 1 (.int .i64 ((picks : Int) + 1))
        have hR3 := hset.keep ((Ch.refl (fun j => j = b) (wr.setCell ⟨g, p, none⟩ (.int .i64 0))).setCell (p := ⟨b, 1, none⟩) (.inl rfl) (.int .i64 ((picks : Int) + 1))) (fun e => hne e.symm)
        have hfin : PkAt ((wr.setCell ⟨g, p, none⟩ (.int .i64 0)).setCell ⟨b, 1, none⟩ (.int .i64 ((picks : Int) + 1))) b g c size (picks + 1) ((ag.map (· + 1)).set p 0) :=
          ⟨by rw [List.length_set, hlm]; exact hD3, ⟨sp, hR3⟩, by rw [List.length_set, hlm]; exact hlo, by rw [List.length_set, hlm]; exact hhi, by rw [List.length_set, hlm]; exact hcap, hcapm, by rw [List.length_set, hlm]; exact hsz, fun x hx => by
            rcases List.mem_or_eq_of_mem_set hx with hx | rfl
            · obtain ⟨y, hy, rfl⟩ := List.mem_map.1 hx
              have := h.agb y hy
              omega
            · omega⟩
        have hF2 : First ag ag.length d0 := by rw [HN.out]; exact hF
        have hpp2 : (p : Int) = (if urgB ag ag.length size then (d0 : Int) else want) := by rw [HN.out, HU.out]; exact HPP.out
        have HFIN := Lib.hid hfin
        have HC3 := Lib.hid hC3
        have HPP2 := Lib.hid hpp2
        have i1 : (0 : Int) ≤ p := Int.natCast_nonneg _
        have i2 : (p : Int) < k := by omega
        clear hfin hC3 hR3 hD3 hset hpp2 hC hC2 hP2 hR
        go_wp2_with fail
        go_ret2
        exact ⟨d0, p, hF2, HPP2.out, rfl, HFIN.out, HC3.out⟩
end Go.Proofs.Ytbpkedghnjiehaa
