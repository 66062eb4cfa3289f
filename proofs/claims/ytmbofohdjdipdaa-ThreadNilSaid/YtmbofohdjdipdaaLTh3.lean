/-
  Layer 12's helpers: the machine of the examples; runs and words of machines.
-/
import Derived.Test.YtmbofohdjdipdaaLTh2
namespace Go.Proofs.Ytmbofohdjdipdaa
open Go.RowKit

theorem runs_ok {w : World} {M : MaR} {ws : List Int} {ts : List Thr} (h : MS w M ws ts) (A : Option Addr) (ps : List Nat) (n c many : Nat) (hr : Rd (fun b => b < w.heap.size) w A (i64s (ps.map Int.ofNat))) (hl : ps.length = n) (hn : n ≤ 100000) (hp : ∀ p ∈ ps, p < ts.length)
    (he : (runS ⟨ws, ts, [], 0⟩ ps).e = 0) (hm : (runS ⟨ws, ts, [], 0⟩ ps).out.length = many) :
    Calls Try.prog 53 #[.pointer (some ⟨M.r, 0, none⟩), .int .i64 many, .slice A n c] w (MsQ w M (runS ⟨ws, ts, [], 0⟩ ps).ws (runS ⟨ws, ts, [], 0⟩ ps).ts (.bool true)) := by
  have hrun := ms_run h A ps n c hr hl hn hp he
  rw [hm] at hrun
  clear hm hp hl hn he
  generalize runS ⟨ws, ts, [], 0⟩ ps = s at *
  go_enter Try.func53, Try.ntmps53
  go_wp2_with (go_at_call 18; refine hrun.mono ?_; rintro e w2 ⟨v, hv, rfl, hM⟩; obtain ⟨A2, c2, rfl, _, _⟩ := own_slice hv)
  go_ret
  exact ⟨rfl, hM⟩
theorem word_ok {w : World} {M : MaR} {ws : List Int} {ts : List Thr} (h : MS w M ws ts) (i : Nat) (v : Int) (hi : i < ws.length) (hv : ws.getD i 0 = v) :
    Calls Try.prog 54 #[.pointer (some ⟨M.r, 0, none⟩), .int .i64 i, .int .u64 v] w fun e w' => e = .returned (.bool true) ∧ Below w.heap.size w w' := by
  have hmm := mamem_ok M ws w h.at_
  have hE := doE_in ws 1 i (by omega) hi
  have hB : doB ws 1 i = v := by unfold doB; rw [if_pos hE]; simpa using hv
  have hld := fun b g c W hW => mload_any b g c ws i W hW
  rw [hE, hB] at hld
  clear hE hB hv hi
  go_enter Try.func54, Try.ntmps54
  go_wp2_with (first | (go_at_call 41; refine hmm.mono ?_; rintro e w2 ⟨b, g, c, rfl, hm, hb, hg, hB2⟩) | (go_at_call 51; refine (hld b g c _ hm).mono ?_; rintro e w3 ⟨rfl, hm3, hc3⟩))
  go_ret
  exact ⟨rfl, hB2.trans (hc3.below (fun k _ e => by subst e; exact hg) hB2.size)⟩
def thr0 (l : List Ins) : Thr := ⟨.code (newCd l), 0, 0⟩
def ts0 : List Thr := [thr0 addsL, thr0 addsL, thr0 awaitsL]
def ws0 : List Int := [0, 0, 0, 0]
def MachP (w : World) (e : Ending) (w' : World) : Prop := Below w.heap.size w w' ∧ ∃ M, e = .returned (.pointer (some ⟨M.r, 0, none⟩)) ∧ MS w' M ws0 ts0 ∧ ∀ k, M.foot k → w.heap.size ≤ k
set_option maxRecDepth 100000 in
set_option maxHeartbeats 4000000 in
theorem machine_ok (w : World) : Calls Try.prog 52 #[] w (MachP w) := by
  have hmk : ∀ w, (Instr.makeSlice 22 (.int .i64 4) (.int .i64 4)).run Try.prog w = .ok (.slice (some ⟨w.heap.size, 0, none⟩) 4 4) (w.alloc (.cells (u64s (List.replicate 4 0)).toArray 33)) := fun w => make_u64 4 (by omega) w
  have hs0 : (u64s (List.replicate 4 0)).toArray = (u64s ws0).toArray := rfl
  rw [hs0] at hmk
  generalize hcs : (u64s ws0).toArray = cs at hmk
  have HCS := Lib.hid hcs
  clear hcs hs0
  go_enter Try.func52, Try.ntmps52
  go_upto_region 2 with (first | (go_at_call 11; refine (made_ok _ ws0 4 4 _ (by rw [← HCS.out]; exact Rd.of_blk (Blk.new w 33 (u64s ws0)) (List.prefix_refl _) (by simp)) rfl (by omega) (by omega) (Nat.le_refl _) (by decide)).mono ?_; rintro e w1 ⟨b, g, rfl, hm, hb, hg, hB1⟩) | (go_at_call 12; refine (manew_ok b g _ ws0 _ hm).mono ?_; rintro e w2 ⟨hB2, M, rfl, hM, hMq, hMf⟩))
  have hbw2 : Below w.heap.size w w2 := (((Below.refl _ w).alloc (Nat.le_refl _) _).trans (hB1.mono (by simp))).trans (hB2.mono (Nat.le_trans (by simp) hB1.size))
  have hz1 := hB1.size
  simp only [World.size_alloc] at hz1
  have hMf2 : ∀ k, M.foot k → w.heap.size ≤ k := fun k hk => Nat.le_trans (by omega) (hMf k hk)
  have hS0 : MS w2 M ws0 [] := ⟨hM, by rw [hMq]; rfl, fun t ht => by cases ht⟩
  clear hM hMq hMf hm hb hg hB1 hB2 hz1
  go_upto_region 4 with (fail)
  go_wp2_with fail
  refine (adds_ok _).mono ?_
  rintro e w3 ⟨s1, rfl, l1, n1, o1, b1⟩
  go_wp2_with fail
  refine (adds_ok _).mono ?_
  rintro e w4 ⟨s2, rfl, l2, n2, o2, b2⟩
  go_wp2_with fail
  refine (awaits_ok _).mono ?_
  rintro e w5 ⟨s3, rfl, l3, n3, o3, b3⟩
  have z3 := b1.size
  have z4 := b2.size
  have z5 := b3.size
  have hb25 : Below w2.heap.size w2 w5 := (b1.trans (b2.mono z3)).trans (b3.mono (Nat.le_trans z3 z4))
  have hSS : ∀ s ∈ [s1, s2, s3], LitAt w5 s := fun s hs => by
    simp only [List.mem_cons, List.not_mem_nil, or_false] at hs
    rcases hs with rfl | rfl | rfl
    · exact (o1.below b2).below b3
    · exact o2.below b3
    · exact o3
  have hSL : [s1, s2, s3].map (fun s : SlR => (⟨pgOf [s.l], 0, 0⟩ : Thr)) = ts0 := by
    simp only [List.map_cons, List.map_nil, l1, l2, l3]
    rfl
  have hok : ∀ s ∈ [s1, s2, s3], codeOkB s.l = true := fun s hs => by
    simp only [List.mem_cons, List.not_mem_nil, or_false] at hs
    rcases hs with rfl | rfl | rfl
    · rw [l1]; decide
    · rw [l2]; decide
    · rw [l3]; decide
  have hS5 := hS0.below hb25
  have hbw5 : Below w.heap.size w w5 := hbw2.trans (hb25.mono hbw2.size)
  clear o1 o2 o3 l1 l2 l3 n1 n2 n3 b1 b2 b3 hS0 hbw2 hb25 z3 z4 z5
  have hv : ∀ W : World, Blk (W.alloc (.cells #[s1.v, s2.v, s3.v] 64)) W.heap.size 64 ([s1, s2, s3].map SlR.v) := fun W => Blk.new W _ _
  have hsl : ([s1, s2, s3] : List SlR).length = 3 := rfl
  have hcs1 : ∀ s : SlR, s.v.oneCell' = true := fun s => rfl
  generalize [s1, s2, s3] = ss at hSS hSL hok hv hsl
  obtain ⟨mr, hmr⟩ : ∃ mr, mr = M.r := ⟨_, rfl⟩
  rw [← hmr]
  have HMR := Lib.hid hmr
  have HSS := Lib.hid hSS
  have HSL := Lib.hid hSL
  have HOK := Lib.hid hok
  have HV := Lib.hid hv
  have HL := Lib.hid hsl
  have HS5 := Lib.hid hS5
  clear hSS hSL hok hv hsl hmr hS5 hcs1
  go_wp2_with fail
  go_loopw [25] (fun v25 wr => ∃ (k : Nat) (M : MaR), k ≤ 3 ∧ v25 = .int .i64 k ∧ M.r = mr ∧ MS wr M ws0 (ts0.take k) ∧ (∀ k, M.foot k → w.heap.size ≤ k) ∧ Below w.heap.size w wr ∧ Blk wr w5.heap.size 64 (ss.map SlR.v) ∧ ∀ s ∈ ss, LitAt wr s) (fun v25 _ => 3 - (intOf v25).toNat)
  case atStart => exact ⟨0, M, Nat.zero_le _, rfl, HMR.out.symm, HS5.out.below (by (repeat' (first | (with_reducible exact Below.refl _ _) | (with_reducible assumption) | (with_reducible refine Below.alloc ?_ ?_ _) | (with_reducible refine Below.drew ?_) | (with_reducible refine below_drewN ?_ _) | (with_reducible refine Below.setCell ?_ ?_ _) | (with_reducible refine Below.trans ?_ (Below.mono (by assumption) ?_)) | (first | go_size | (with_reducible exact Below.size (by assumption)) | (with_reducible exact Nat.le_trans (Below.size (by assumption)) (Below.size (by assumption))) | (refine Nat.le_trans (Below.size (by assumption)) ?_; go_size))))), hMf2, by (repeat' (first | (with_reducible exact Below.refl _ _) | (with_reducible assumption) | (with_reducible refine Below.alloc ?_ ?_ _) | (with_reducible refine Below.drew ?_) | (with_reducible refine below_drewN ?_ _) | (with_reducible refine Below.setCell ?_ ?_ _) | (with_reducible refine Below.trans ?_ (Below.mono (by assumption) ?_)) | (first | go_size | (with_reducible exact Below.size (by assumption)) | (with_reducible exact Nat.le_trans (Below.size (by assumption)) (Below.size (by assumption))) | (refine Nat.le_trans (Below.size (by assumption)) ?_; go_size)))), HV.out w5, fun s hs => (HSS.out s hs).below (by (repeat' (first | (with_reducible exact Below.refl _ _) | (with_reducible assumption) | (with_reducible refine Below.alloc ?_ ?_ _) | (with_reducible refine Below.drew ?_) | (with_reducible refine below_drewN ?_ _) | (with_reducible refine Below.setCell ?_ ?_ _) | (with_reducible refine Below.trans ?_ (Below.mono (by assumption) ?_)) | (first | go_size | (with_reducible exact Below.size (by assumption)) | (with_reducible exact Nat.le_trans (Below.size (by assumption)) (Below.size (by assumption))) | (refine Nat.le_trans (Below.size (by assumption)) ?_; go_size)))))⟩
  case round =>
    obtain ⟨k, N, hk, rfl, rfl, hN, hNf, hbW, hbk, hsl⟩ := hrel
    have HSK := Lib.hid hsl
    clear hsl
    by_cases hlt : k < 3
    · obtain ⟨s, hs⟩ : ∃ s, ss[k]? = some s := ⟨_, List.getElem?_eq_getElem (by rw [HL.out]; exact hlt)⟩
      have hcell : wr.cell? ⟨w5.heap.size, k, none⟩ = some s.v := by rw [hbk.cell, List.getElem?_map, hs]; rfl
      have hso : SlOk wr s := (HSK.out s (List.mem_of_getElem? hs)).ok
      have hokk := HOK.out s (List.mem_of_getElem? hs)
      have hts : ts0[k]? = some ⟨pgOf [s.l], 0, 0⟩ := by rw [← HSL.out, List.getElem?_map, hs]; rfl
      have HTK := Lib.hid (show ts0.take (k + 1) = ts0.take k ++ [⟨pgOf [s.l], 0, 0⟩] by rw [List.take_add_one, hts]; rfl)
      have hpr := fun W h1 h2 => program_ok (some ⟨wr.heap.size, 0, none⟩) [s] 1 1 W h1 rfl (Nat.le_refl _) (by omega) h2 (fun x hx => by rw [List.mem_singleton] at hx; subst hx; exact hokk)
      have hlen : (ts0.take k).length = k := by rw [List.length_take]; show min k 3 = k; omega
      have hadd := fun W (hW : MS W N ws0 (ts0.take k)) d fs hp => ms_add hW d fs (pgOf [s.l]) hp (pgOf_shares _) (by rw [hlen]; omega)
      rw [hlen] at hadd
      have hadd2 := Lib.hid hadd
      have hpr2 := Lib.hid hpr
      have HNS := Lib.hid hN
      have HSO := Lib.hid hso
      unfold SlR.v at hcell
      clear hts hlen hadd hpr hN hso hokk hs
      go_upto_region 10 with (go_at_call 22; refine (hpr2.out _ ?_ ?_).mono ?_; (focus (exact Rd.of_blk (Blk.new _ _ [s.v]) (List.prefix_refl _) (by simp))); (focus (intro x hx; rw [List.mem_singleton] at hx; subst hx; exact HSO.out.below ((Below.refl _ _).alloc (Nat.le_refl _) _) (Nat.le_refl _))); rintro e w6 ⟨hb6, d, fs, rfl, hp6, hf6⟩)
      have hb6' : Below wr.heap.size wr w6 := ((Below.refl _ wr).alloc (Nat.le_refl _) _).trans (hb6.mono (by simp))
      have hN6 := HNS.out.below hb6'
      have had := hadd2.out w6 hN6 d fs hp6
      clear hb6
      go_wp2_with (go_at_call 21; refine had.mono ?_; rintro e w7 ⟨rfl, N2, hN2, hr2, hf2, hc2⟩)
      go_roundw
      case rel =>
        have hz6 := hb6'.size
        have hzw := hbW.size
        have hm6 : Mut w6 N.foot := hN6.at_.mut
        have hbk6 := hbk.keep (Ch.of_below hb6' (fun _ => False)) (fun e => e)
        exact ⟨k + 1, N2, by omega, by go_num, hr2, by rw [HTK.out]; exact hN2, fun q hq => (hf2 q hq).elim (hNf q) (fun e => by omega), (hbW.trans (hb6'.mono hzw)).trans (hc2.below (fun q _ hf => hNf q hf) (by omega)),
          hbk6.keep hc2 (hN6.at_.notFoot hbk6 (by unfold maTy progTy; decide)), fun x hx => ((HSK.out x hx).below hb6').keep hc2 hm6⟩
      case measure => simp [intOf]; omega
    · obtain rfl : k = 3 := by omega
      go_wp2
      go_ret
      exact ⟨hbW, N, rfl, hN, hNf⟩
end Go.Proofs.Ytmbofohdjdipdaa
