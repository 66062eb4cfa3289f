/-
  The walk of VersionLongs: it returns true at every input.
-/
import Derived.Test.YtbhcgmiglkocbaaK11
import Derived.Test.YtbhcgmiglkocbaaVerLong
namespace Go.Proofs.Ytbhcgmiglkocbaa
open Go.RowKit
namespace VersionLongs
theorem wf_u64 {x : Int} (h : (Lit.int .u64 x).wf = true) : 0 ≤ x ∧ x ≤ 18446744073709551615 := by
  simp [Lit.wf, IntKind.min, IntKind.max, IntKind.signed, IntKind.bits] at h
  omega
def VL (v : Int) (k n : Nat) : List Int := (List.range n).map fun i => if i < k then IntKind.u64.wrap (v + (i : Nat)) else 0
theorem VL_length (v : Int) (k n : Nat) : (VL v k n).length = n := by simp [VL]
theorem VL_get (v : Int) (k n i : Nat) (h : i < n) : (VL v k n)[i]? = some (if i < k then IntKind.u64.wrap (v + (i : Nat)) else 0) := by simp [VL, h]
theorem VL_zero (v : Int) (n : Nat) : VL v 0 n = List.replicate n 0 := by
  apply List.ext_getElem?
  intro i
  by_cases h : i < n
  · rw [VL_get _ _ _ _ h, List.getElem?_replicate, if_pos h, if_neg (by omega)]
  · rw [List.getElem?_eq_none (by rw [VL_length]; omega), List.getElem?_eq_none (by rw [List.length_replicate]; omega)]
theorem VL_succ (v : Int) (k n : Nat) : VL v (k + 1) n = (VL v k n).set k (IntKind.u64.wrap (v + (k : Nat))) := by
  apply List.ext_getElem?
  intro i
  rw [List.getElem?_set, VL_length]
  by_cases hi : i < n
  · rw [VL_get _ _ _ _ hi, VL_get _ _ _ _ hi]
    by_cases e : k = i
    · subst e; rw [if_pos (by omega), if_pos rfl, if_pos hi]
    · rw [if_neg e]
      by_cases h2 : i < k
      · rw [if_pos h2, if_pos (by omega)]
      · rw [if_neg h2, if_neg (by omega)]
  · rw [List.getElem?_eq_none (by rw [VL_length]; omega), List.getElem?_eq_none (by rw [VL_length]; omega)]
    split
    · rw [if_neg (by omega)]
    · rfl
theorem VL_wf (v : Int) (k n : Nat) : ∀ x ∈ VL v k n, 0 ≤ x ∧ x ≤ 18446744073709551615 := fun x hx => by
  unfold VL at hx
  obtain ⟨i, _, rfl⟩ := List.mem_map.1 hx
  split
  · exact wrap_bd _
  · omega
theorem u64s_set (xs : List Int) (k : Nat) (x : Int) : (u64s xs).set k (.int .u64 x) = u64s (xs.set k x) := by simp [u64s, List.map_set]
set_option maxRecDepth 100000 in
set_option maxHeartbeats 4000000 in
theorem walk (m : Int) (_wm : (Lit.int .i64 m).wf = true) (v : Int) (wv : (Lit.int .u64 v).wf = true) (W : World) :
    Calls Try.prog 4 #[.int .i64 m, .int .u64 v] W fun e w' => e = .returned (.bool true) ∧ Below W.heap.size W w' := by
  have hv := wf_u64 wv
  clear wv
  by_cases h1 : m < 254
  · have d1 : decide (m < 254) = true := decide_eq_true h1
    go_enter Try.func4, Try.ntmps4
    go_wp2_with (first | (go_at_call 8; refine (known_ok _).mono ?_; rintro e w' ⟨rfl, hkb⟩))
    go_ret
    exact ⟨rfl, by (repeat' (first | (with_reducible exact Below.refl _ _) | (with_reducible assumption) | (with_reducible refine Below.alloc ?_ ?_ _) | (with_reducible refine Below.drew ?_) | (with_reducible refine below_drewN ?_ _) | (with_reducible refine Below.setCell ?_ ?_ _) | (with_reducible refine Below.trans ?_ (Below.mono (by assumption) ?_)) | (first | go_size | (with_reducible exact Below.size (by assumption)) | (with_reducible exact Nat.le_trans (Below.size (by assumption)) (Below.size (by assumption))) | (refine Nat.le_trans (Below.size (by assumption)) ?_; go_size))))⟩
  have d1 : decide (m < 254) = false := decide_eq_false h1
  by_cases h2 : 258 < m
  · have d2 : decide (258 < m) = true := decide_eq_true h2
    go_enter Try.func4, Try.ntmps4
    go_wp2_with (first | (go_at_call 8; refine (known_ok _).mono ?_; rintro e w' ⟨rfl, hkb⟩))
    go_ret
    exact ⟨rfl, by (repeat' (first | (with_reducible exact Below.refl _ _) | (with_reducible assumption) | (with_reducible refine Below.alloc ?_ ?_ _) | (with_reducible refine Below.drew ?_) | (with_reducible refine below_drewN ?_ _) | (with_reducible refine Below.setCell ?_ ?_ _) | (with_reducible refine Below.trans ?_ (Below.mono (by assumption) ?_)) | (first | go_size | (with_reducible exact Below.size (by assumption)) | (with_reducible exact Nat.le_trans (Below.size (by assumption)) (Below.size (by assumption))) | (refine Nat.le_trans (Below.size (by assumption)) ?_; go_size))))⟩
  have d2 : decide (258 < m) = false := decide_eq_false h2
  obtain ⟨N, rfl⟩ : ∃ N : Nat, m = N := ⟨m.toNat, by omega⟩
  have hN1 : 254 ≤ N := by omega
  have hN2 : N ≤ 258 := by omega
  obtain ⟨Z, hZ⟩ : ∃ Z, Z = (u64s (List.replicate 300 0)).toArray := ⟨_, rfl⟩
  have hmk : ∀ w, (Instr.makeSlice 23 (.int .i64 300) (.int .i64 300)).run Try.prog w = .ok (.slice (some ⟨w.heap.size, 0, none⟩) 300 300) (w.alloc (.cells Z 22)) := fun w => by rw [hZ]; exact make_u64 300 (by omega) w
  obtain ⟨Y, hY⟩ : ∃ Y, Y = (u64s (List.replicate N 0)).toArray := ⟨_, rfl⟩
  have hmk2 : ∀ w, (Instr.makeSlice 23 (.int .i64 N) (.int .i64 N)).run Try.prog w = .ok (.slice (some ⟨w.heap.size, 0, none⟩) N N) (w.alloc (.cells Y 22)) := fun w => by rw [hY]; exact make_u64 N (by omega) w
  have HZ := Lib.hid hZ
  have HY := Lib.hid hY
  have hz300 : ∀ x ∈ List.replicate 300 (0 : Int), 0 ≤ x ∧ x ≤ 18446744073709551615 := fun x hx => by rw [List.eq_of_mem_replicate hx]; omega
  have hm0 := fun w => made_ok (some ⟨W.heap.size, 0, none⟩) (List.replicate 300 0) 300 300 w
  have hl300 : (List.replicate 300 (0 : Int)).length = 300 := by rw [List.length_replicate]
  have HM0 := Lib.hid hm0
  have HL3 := Lib.hid hl300
  have HZ3 := Lib.hid hz300
  clear hZ hY h1 h2 hm0 hl300 hz300
  go_enter Try.func4, Try.ntmps4
  go_wp2_with fail
  refine (HM0.out _ (by rw [HZ.out]; exact Rd.of_blk (Blk.new W 22 (u64s (List.replicate 300 0))) (List.prefix_refl _) (by simp)) HL3.out (by omega) (by omega) (by omega) HZ3.out).mono ?_
  rintro e w0 ⟨b, g, rfl, hm, hb, hg, hB⟩
  have hV : KV W w0 b g 300 (List.replicate 300 0) := by rw [HL3.out] at hm; exact ⟨hm, by simp at hb; omega, by simp at hg; omega, Below.trans (by (repeat' (first | (with_reducible exact Below.refl _ _) | (with_reducible assumption) | (with_reducible refine Below.alloc ?_ ?_ _) | (with_reducible refine Below.drew ?_) | (with_reducible refine below_drewN ?_ _) | (with_reducible refine Below.setCell ?_ ?_ _) | (with_reducible refine Below.trans ?_ (Below.mono (by assumption) ?_)) | (first | go_size | (with_reducible exact Below.size (by assumption)) | (with_reducible exact Nat.le_trans (Below.size (by assumption)) (Below.size (by assumption))) | (refine Nat.le_trans (Below.size (by assumption)) ?_; go_size))))) (hB.mono (by simp))⟩
  have hz0 := hV.below.size
  have hgl := hV.mem.lt
  clear hm hb hg hB HM0
  go_wp2_with fail
  go_loopw [25] (fun v25 wr => ∃ k : Nat, v25 = .int .i64 k ∧ k ≤ N ∧ Blk wr w0.heap.size 22 (u64s (VL v k N)) ∧ Below w0.heap.size w0 wr) (fun v _ => N - (intOf v).toNat)
  case atStart => exact ⟨0, rfl, Nat.zero_le _, by rw [VL_zero, HY.out]; exact Blk.new _ _ _, by (repeat' (first | (with_reducible exact Below.refl _ _) | (with_reducible assumption) | (with_reducible refine Below.alloc ?_ ?_ _) | (with_reducible refine Below.drew ?_) | (with_reducible refine below_drewN ?_ _) | (with_reducible refine Below.setCell ?_ ?_ _) | (with_reducible refine Below.trans ?_ (Below.mono (by assumption) ?_)) | (first | go_size | (with_reducible exact Below.size (by assumption)) | (with_reducible exact Nat.le_trans (Below.size (by assumption)) (Below.size (by assumption))) | (refine Nat.le_trans (Below.size (by assumption)) ?_; go_size))))⟩
  case round =>
    obtain ⟨k, rfl, hk, hB, hb⟩ := hrel
    have hbz := hb.size
    by_cases hlt : k < N
    · have hcc := hB.cell k
      rw [show (u64s (VL v k N))[k]? = some (.int .u64 0) from by simp only [u64s, List.getElem?_map, VL_get v k N k hlt]; rw [if_neg (by omega)]; rfl] at hcc
      have hfz := hB.frozen k
      have hset := hB.set k (.int .u64 (IntKind.u64.wrap (v + (k : Int))))
      rw [u64s_set, ← VL_succ] at hset
      have HS := Lib.hid hset
      have i1 : (0 : Int) ≤ k := Int.natCast_nonneg _
      have i2 : (k : Int) < N := by omega
      clear hset
      go_wp2_with fail
      go_roundw
      case rel => exact ⟨k + 1, by go_num, by omega, HS.out, by (repeat' (first | (with_reducible exact Below.refl _ _) | (with_reducible assumption) | (with_reducible refine Below.alloc ?_ ?_ _) | (with_reducible refine Below.drew ?_) | (with_reducible refine below_drewN ?_ _) | (with_reducible refine Below.setCell ?_ ?_ _) | (with_reducible refine Below.trans ?_ (Below.mono (by assumption) ?_)) | (first | go_size | (with_reducible exact Below.size (by assumption)) | (with_reducible exact Nat.le_trans (Below.size (by assumption)) (Below.size (by assumption))) | (refine Nat.le_trans (Below.size (by assumption)) ?_; go_size))))⟩
      case measure => simp [intOf]; omega
    · obtain rfl : k = N := by omega
      have hxl := VL_length v k k
      have hwf := VL_wf v k k
      have hrd : Rd (fun q => q = w0.heap.size) wr (some ⟨w0.heap.size, 0, none⟩) (u64s (VL v k k)) := Rd.of_blk hB (List.prefix_refl _) rfl
      have hzB := hB.lt
      have hV1 := hV.step hb
      clear hV
      generalize VL v k k = xs at *
      have HXL := Lib.hid hxl
      have HWF := Lib.hid hwf
      clear hxl hwf hB
      by_cases hbig : 256 < k
      · have d3 : decide (256 < (k : Int)) = true := decide_eq_true (by omega)
        have hnw := fun w => newwr_bad 299 3 (some ⟨w0.heap.size, 0, none⟩) k k w (fun h => by have := h.n1; omega)
        have hnr := fun w => newrd_bad 299 3 k 1 w (.inl (fun h => by have := h.n1; omega))
        have hend := hV1.below
        clear hV1 hrd hb
        go_wp2_with (first | (go_at_call 16; refine (hnw _).mono ?_; rintro e w' ⟨rfl, rfl⟩) | (go_at_call 10; refine (hnr _).mono ?_; rintro e w' ⟨rfl, rfl⟩) | (go_at_call 8; refine (known_ok _).mono ?_; rintro e w' ⟨rfl, hkb⟩))
        go_ret
        exact ⟨rfl, by (repeat' (first | (with_reducible exact Below.refl _ _) | (with_reducible assumption) | (with_reducible refine Below.alloc ?_ ?_ _) | (with_reducible refine Below.drew ?_) | (with_reducible refine below_drewN ?_ _) | (with_reducible refine Below.setCell ?_ ?_ _) | (with_reducible refine Below.trans ?_ (Below.mono (by assumption) ?_)) | (first | go_size | (with_reducible exact Below.size (by assumption)) | (with_reducible exact Nat.le_trans (Below.size (by assumption)) (Below.size (by assumption))) | (refine Nat.le_trans (Below.size (by assumption)) ?_; go_size))))⟩
      · have d3 : decide (256 < (k : Int)) = false := decide_eq_false (by omega)
        have hok : OkV 299 3 k := ⟨by omega, by omega, by omega, by omega, fun _ => ⟨by omega, by omega, by omega, .inr (by omega)⟩⟩
        have hnw := newwr_ok 299 3 (some ⟨w0.heap.size, 0, none⟩) xs k k wr (by rw [HXL.out]; exact hok) (hrd.mono (fun _ _ _ => trivial)) HXL.out (fun e => by cases e) HWF.out
        have hnr := fun w => newrd_ok 299 3 k 1 w hok (by omega) (by omega)
        have hw3 := wit3 xs (by rw [HXL.out]; omega)
        have hwg := wgo xs (by rw [HXL.out]; omega)
        have hr3 := rit2 xs (by rw [HXL.out]; omega)
        have hrg := rgo xs (by rw [HXL.out]; omega)
        rw [HXL.out] at hw3 hwg hr3 hrg
        have HW3 := Lib.hid hw3
        have HWG := Lib.hid hwg
        have HR3 := Lib.hid hr3
        have HRG := Lib.hid hrg
        clear hok hw3 hwg hr3 hrg hbig
        go_wp2_with fail
        refine hnw.mono ?_
        rintro e w2 ⟨r, A, cl, rfl, hW, hrB, hb2⟩
        clear hnw
        go_wp2_with fail
        refine (hnr _).mono ?_
        rintro e w3 ⟨r2, rfl, hR, hrB2, hb3⟩
        have hW3' := hW.below hb3
        have hV3 := (hV1.step hb2).step hb3
        have hrd3 := (hrd.keep (Ch.of_below hb2 (fun _ => False)) (fun _ _ _ e => e)).keep (Ch.of_below hb3 (fun _ => False)) (fun _ _ _ e => e)
        have hrl := hW.hd.lt
        have hzz := hb2.size
        clear hV1 hW hrd hnr hb hb2 hb3
        have hwe := wends_ok wr.heap.size r 299 3 A cl xs ⟨0, 0, false⟩ b g 300 (WL xs 0 0) (k + 3) w3 hW3' (by rw [WL_zero]; exact hV3.mem) (.inl (by omega)) (by omega) (by omega) (fun i hi => (HWG.out i hi).1) (fun i hi => (HWG.out i hi).2) (by unfold wEnd; rw [HW3.out])
        rw [HW3.out] at hwe
        clear hW3'
        go_wp2_with fail
        refine hwe.mono ?_
        rintro e w4 ⟨rfl, q1, q2, q3⟩
        have hne : w2.heap.size ≤ r2 := hrB2
        have hR4 : RdAt w2.heap.size w4 r2 299 3 k (rs0 1) (.slice none 0 0) := hR.keep q3 (by rintro (e | e) <;> omega) (fun k hk => by cases hk)
        have hrd4 := hrd3.keep q3 (fun q _ hq e => by subst hq; rcases e with e | e <;> omega)
        have hV4 := hV3.ofW (by omega) q2 q3
        have e1 : (((k + 3 : Nat) : Int) == (k : Int) + 3) = true := by rw [beq_iff_eq]; omega
        have hre := rends_ok w2.heap.size r2 299 3 k (rs0 1) (.slice none 0 0) b g 300 (WL xs k 2) (k + 2) w4 hR4 q2 (fun e => by cases e) (by omega) (by omega) (fun i hi => (HRG.out i hi).1) (fun i hi => (HRG.out i hi).2) (by unfold rEnd; rw [HR3.out])
        rw [HR3.out] at hre
        clear hwe hR q1 q2 q3 hrd3 hV3 hR4
        go_wp2_with fail
        refine hre.mono ?_
        rintro e w5 ⟨rfl, lv, p1, p2, p3, p4, p5⟩
        have hB5 : Below W.heap.size W w5 := hV4.below.trans (p3.below (fun j _ e => by have := hV4.gW; rcases e with e | e | e; omega; omega; cases e) hV4.below.size)
        have hrd5 := hrd4.keep p3 (fun q _ hq e => by subst hq; rcases e with e | e | e; omega; omega; cases e)
        have hwd := rwords_some w2.heap.size r2 299 3 k ⟨true, 2, xs, 1, 1, true⟩ lv w5 p1 (by show (1 : Int) ≠ 0; decide)
        have hvr := fun w h => rversion_any w2.heap.size r2 299 3 k ⟨true, 2, xs, 1, 1, true⟩ lv w h
        rw [if_neg (show ¬ ((1 : Int) = 0) by decide)] at hvr
        dsimp only at hwd hvr
        have e2 : (((k + 2 : Nat) : Int) == (k : Int) + 2) = true := by rw [beq_iff_eq]; omega
        clear hre hV4 hrd4 p2 p3 p4 p5
        go_wp2_with fail
        refine hwd.mono ?_
        rintro e w6 ⟨v6, rfl, k6, hb6⟩
        obtain ⟨A6, c6, rfl, hc6, _⟩ := own_slice k6
        have hrd6 := hrd5.keep (Ch.of_below hb6 (fun _ => False)) (fun _ _ _ e => e)
        have p6 := p1.below hb6
        have hB6 := hB5.trans (hb6.mono hB5.size)
        have hsm := lsame_ok A6 (some ⟨w0.heap.size, 0, none⟩) xs xs.length k c6 k w6 ((Rd.of_own k6).mono (fun _ _ _ => trivial)) (hrd6.mono (fun _ _ _ => trivial)) rfl HXL.out (by rw [HXL.out]; omega) hc6 (Nat.le_refl _)
        clear hwd hb6 k6 hrd5 p1 hB5
        go_wp2_with fail
        refine hsm.mono ?_
        rintro e w7 ⟨rfl, hb7⟩
        have p7 := hvr _ (p6.below hb7)
        have hB7 := hB6.trans (hb7.mono hB6.size)
        clear hsm hvr p6 hrd6 hB6 hb7
        go_wp2_with (first | (go_at_call 15; refine p7.mono ?_; rintro e w' ⟨rfl, rfl⟩) | (go_at_call 8; refine (known_ok _).mono ?_; rintro e w' ⟨rfl, hkb⟩))
        go_ret
        exact ⟨rfl, by (repeat' (first | (with_reducible exact Below.refl _ _) | (with_reducible assumption) | (with_reducible refine Below.alloc ?_ ?_ _) | (with_reducible refine Below.drew ?_) | (with_reducible refine below_drewN ?_ _) | (with_reducible refine Below.setCell ?_ ?_ _) | (with_reducible refine Below.trans ?_ (Below.mono (by assumption) ?_)) | (first | go_size | (with_reducible exact Below.size (by assumption)) | (with_reducible exact Nat.le_trans (Below.size (by assumption)) (Below.size (by assumption))) | (refine Nat.le_trans (Below.size (by assumption)) ?_; go_size))))⟩
end VersionLongs
end Go.Proofs.Ytbhcgmiglkocbaa
