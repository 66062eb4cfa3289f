/-
  The walk of McsAlone: it returns true at every input.
-/
import Derived.Test.YtmlhdcpahfgckaaK08
import Derived.Test.YtmlhdcpahfgckaaMcsP
namespace Go.Proofs.Ytmlhdcpahfgckaa
open Go.RowKit
namespace McsAlone

theorem wf_u64 {x : Int} (h : (Lit.int .u64 x).wf = true) : 0 ≤ x ∧ x ≤ 18446744073709551615 := by
  simp [Lit.wf, IntKind.min, IntKind.max, IntKind.signed, IntKind.bits] at h
  omega
theorem wf_u8 {x : Int} (h : (Lit.int .u8 x).wf = true) : 0 ≤ x ∧ x ≤ 255 := by
  simp [Lit.wf, IntKind.min, IntKind.max, IntKind.signed, IntKind.bits] at h
  omega
set_option maxRecDepth 100000 in
set_option maxHeartbeats 2000000 in
theorem walk (a0 : Int) (w0 : (Lit.int .u8 a0).wf = true) (a1 : Int) (w1 : (Lit.int .u8 a1).wf = true) (a2 : Int) (w2 : (Lit.int .u64 a2).wf = true) (a3 : Int) (w3 : (Lit.int .u64 a3).wf = true) (w : World) :
    Calls Try.prog 3 #[.int .u8 a0, .int .u8 a1, .int .u64 a2, .int .u64 a3] w fun e w' => e = .returned (.bool true) ∧ Below w.heap.size w w' := by
  have h0 := wf_u8 w0
  have h1 := wf_u8 w1
  have h2 := wf_u64 w2
  have h3 := wf_u64 w3
  clear w0 w1 w2 w3
  by_cases hb : a0 < 1 ∨ 64 < a0
  · rcases hb with hb | hb
    all_goals
      go_enter Try.func3, Try.ntmps3
      go_wp2_with (go_at_call 8; refine (known_ok _).mono ?_; rintro e w' ⟨rfl, hkb⟩)
      go_ret
      exact ⟨rfl, by (repeat' (first | (with_reducible exact Below.refl _ _) | (with_reducible assumption) | (with_reducible refine Below.alloc ?_ ?_ _) | (with_reducible refine Below.drew ?_) | (with_reducible refine below_drewN ?_ _) | (with_reducible refine Below.setCell ?_ ?_ _) | (with_reducible refine Below.trans ?_ (Below.mono (by assumption) ?_)) | (first | go_size | (with_reducible exact Below.size (by assumption)) | (with_reducible exact Nat.le_trans (Below.size (by assumption)) (Below.size (by assumption))) | (refine Nat.le_trans (Below.size (by assumption)) ?_; go_size))))⟩
  obtain ⟨t, rfl⟩ : ∃ t : Nat, a0 = t := ⟨a0.toNat, by omega⟩
  have t1 : 1 ≤ t := by omega
  have t2 : t ≤ 64 := by omega
  have d1 : decide ((t : Int) < 1) = false := decide_eq_false (by omega)
  have d2 : decide ((64 : Int) < t) = false := decide_eq_false (by omega)
  obtain ⟨k, hk⟩ : ∃ k : Nat, a1 % (2 * (t : Int)) = k := ⟨(a1 % (2 * (t : Int))).toNat, by have := Int.emod_nonneg a1 (b := 2 * (t : Int)) (by omega); omega⟩
  have hk2 : k < 2 * t := by have := Int.emod_lt_of_pos a1 (b := 2 * (t : Int)) (by omega); omega
  clear hb h0
  have hmk : ∀ w, (Instr.makeSlice 28 (.int .i64 (1 + 6 * (t : Int))) (.int .i64 (1 + 6 * (t : Int)))).run Try.prog w = .ok (.slice (some ⟨w.heap.size, 0, none⟩) (1 + 6 * t) (1 + 6 * t)) (w.alloc (.cells (u64s (List.replicate (1 + 6 * t) 0)).toArray 22)) := fun w => by
    have := make_u64 (1 + 6 * t) (by omega) w
    simpa using this
  have hXe : ∀ X, X = (w.alloc (.cells #[.int .i64 1, .int .i64 t] 62)).alloc (.cells (u64s (List.replicate (1 + 6 * t) 0)).toArray 22) → NdAt X w.heap.size 1 t ∧ Blk X (w.heap.size + 1) 22 (u64s (List.replicate (1 + 6 * t) 0)) := fun X hX => by
    subst hX
    refine ⟨⟨(Blk.new w 62 [.int .i64 1, .int .i64 t]).keep ((Ch.refl (fun _ => False) _).alloc _) (fun e => e), by omega, by omega, by omega, by omega⟩, ?_⟩
    have := Blk.new (w.alloc (.cells #[.int .i64 1, .int .i64 t] 62)) 22 (u64s (List.replicate (1 + 6 * t) 0))
    rwa [World.size_alloc] at this
  obtain ⟨hN, hL⟩ := hXe _ rfl
  clear hXe
  have l1 := hL.cell (1 + 3 * k)
  have l2 := hL.cell (1 + 3 * k + 1)
  have f1 := hL.frozen (1 + 3 * k)
  have f2 := hL.frozen (1 + 3 * k + 1)
  rw [u64s_at _ _ (by simp; omega)] at l1 l2
  have e1 : (List.replicate (1 + 6 * t) (0 : Int)).getD (1 + 3 * k) 0 = 0 := by simp [List.getD, show 1 + 3 * k < 1 + 6 * t by omega]
  have e2 : (List.replicate (1 + 6 * t) (0 : Int)).getD (1 + 3 * k + 1) 0 = 0 := by simp [List.getD, show 1 + 3 * k + 1 < 1 + 6 * t by omega]
  rw [e1] at l1
  rw [e2] at l2
  have q2 : (u64s (List.replicate (1 + 6 * t) 0))[1 + 3 * k + 1]? = some (.int .u64 0) := by rw [u64s_at _ _ (by simp; omega), e2]
  clear e1 e2
  have d3 : (1 + 3 * (k : Int)) < 1 + 6 * (t : Int) := by omega
  have d4 : (1 + 3 * (k : Int) + 1) < 1 + 6 * (t : Int) := by omega
  go_enter Try.func3, Try.ntmps3
  go_wp2_with (first | (go_at_call 9; refine (qnew_ok 1 t _ (by omega) (by omega) (by omega) (by omega)).mono ?_; rintro e w1 ⟨rfl, rfl⟩) | (go_at_call 10; refine (next_ok w.heap.size 1 t _ k hN.c0 hN.c1 (by omega) (by omega) (by omega) (by omega) (by omega) (by omega)).mono ?_; rintro e w' ⟨rfl, rfl⟩) | (go_at_call 11; refine (wait_ok w.heap.size 1 t _ k hN.c0 hN.c1 (by omega) (by omega) (by omega) (by omega) (by omega) (by omega)).mono ?_; rintro e w' ⟨rfl, rfl⟩))
  obtain ⟨ws0, hw0⟩ : ∃ ws0, ws0 = ((List.replicate (1 + 6 * t) (0 : Int)).set (1 + 3 * k) a2).set (1 + 3 * k + 1) a3 := ⟨_, rfl⟩
  have hset : ((u64s (List.replicate (1 + 6 * t) 0)).set (1 + 3 * k) (.int .u64 a2)).set (1 + 3 * k + 1) (.int .u64 a3) = u64s ws0 := by rw [hw0]; simp only [u64s, List.map_set]
  have hwl : ws0.length = 1 + 6 * t := by rw [hw0]; simp
  have hwf : ∀ x ∈ ws0, 0 ≤ x ∧ x ≤ 18446744073709551615 := fun x hx => by
    rw [hw0] at hx
    rcases List.mem_or_eq_of_mem_set hx with hx | rfl
    · rcases List.mem_or_eq_of_mem_set hx with hx | rfl
      · rw [List.eq_of_mem_replicate hx]; omega
      · exact h2
    · exact h3
  have hz : ws0.getD 0 0 = 0 := by
    rw [hw0, List.getD_eq_getElem?_getD, List.getElem?_set_ne (by omega), List.getElem?_set_ne (by omega), List.getElem?_replicate]; split <;> rfl
  rw [hset]
  have HWL := Lib.hid hwl
  have HWF := Lib.hid hwf
  have HZ := Lib.hid hz
  clear hw0 hset hwl hwf hz q2 l1 l2 f1 f2 hN hL
  have hT := Blk.new (w.alloc (.cells #[.int .i64 1, .int .i64 t] 62)) 22 (u64s ws0)
  rw [World.size_alloc] at hT
  have hk0 : okRun 1 t 0 k := by unfold okRun; omega
  go_wp2_with fail
  refine (made_ok (some ⟨w.heap.size + 1, 0, none⟩) ws0 (1 + 6 * t) (1 + 6 * t) _ (Rd.of_blk hT (List.prefix_refl _) (by simp)) HWL.out (by omega) (by omega) (by omega) HWF.out).mono ?_
  rintro e w1 ⟨b, g, rfl, hm, hb, hg, hB1⟩
  rw [HWL.out] at hm
  have hS : KS w w1 w.heap.size 1 t b g (1 + 6 * t) ws0 [] := ⟨⟨(Blk.new w 62 [.int .i64 1, .int .i64 t]).keep (Ch.of_below (show Below _ (w.alloc _) w1 from Below.trans (by (repeat' (first | (with_reducible exact Below.refl _ _) | (with_reducible assumption) | (with_reducible refine Below.alloc ?_ ?_ _) | (with_reducible refine Below.drew ?_) | (with_reducible refine below_drewN ?_ _) | (with_reducible refine Below.setCell ?_ ?_ _) | (with_reducible refine Below.trans ?_ (Below.mono (by assumption) ?_)) | (first | go_size | (with_reducible exact Below.size (by assumption)) | (with_reducible exact Nat.le_trans (Below.size (by assumption)) (Below.size (by assumption))) | (refine Nat.le_trans (Below.size (by assumption)) ?_; go_size))))) (hB1.mono (by simp))) (fun _ => False)) (fun e => e), by omega, by omega, by omega, by omega⟩, hm, fun p hp => (by cases hp), fun i j p q hp => (by simp at hp), Below.trans (by (repeat' (first | (with_reducible exact Below.refl _ _) | (with_reducible assumption) | (with_reducible refine Below.alloc ?_ ?_ _) | (with_reducible refine Below.drew ?_) | (with_reducible refine below_drewN ?_ _) | (with_reducible refine Below.setCell ?_ ?_ _) | (with_reducible refine Below.trans ?_ (Below.mono (by assumption) ?_)) | (first | go_size | (with_reducible exact Below.size (by assumption)) | (with_reducible exact Nat.le_trans (Below.size (by assumption)) (Below.size (by assumption))) | (refine Nat.le_trans (Below.size (by assumption)) ?_; go_size))))) (hB1.mono (by simp; omega)), by simp at hg; omega, by simp at hb; omega, Nat.le_refl _⟩
  clear hm hb hg hB1 hT
  go_wp2_with fail
  refine (KS.begin (hS.step (by (repeat' (first | (with_reducible exact Below.refl _ _) | (with_reducible assumption) | (with_reducible refine Below.alloc ?_ ?_ _) | (with_reducible refine Below.drew ?_) | (with_reducible refine below_drewN ?_ _) | (with_reducible refine Below.setCell ?_ ?_ _) | (with_reducible refine Below.trans ?_ (Below.mono (by assumption) ?_)) | (first | go_size | (with_reducible exact Below.size (by assumption)) | (with_reducible exact Nat.le_trans (Below.size (by assumption)) (Below.size (by assumption))) | (refine Nat.le_trans (Below.size (by assumption)) ?_; go_size)))))) 0 k false hk0).mono ?_
  clear hS
  rintro e w2 ⟨r1, rfl, hS⟩
  rw [progI_A]
  go_wp2_with fail
  refine (KS.begin (hS.step (by (repeat' (first | (with_reducible exact Below.refl _ _) | (with_reducible assumption) | (with_reducible refine Below.alloc ?_ ?_ _) | (with_reducible refine Below.drew ?_) | (with_reducible refine below_drewN ?_ _) | (with_reducible refine Below.setCell ?_ ?_ _) | (with_reducible refine Below.trans ?_ (Below.mono (by assumption) ?_)) | (first | go_size | (with_reducible exact Below.size (by assumption)) | (with_reducible exact Nat.le_trans (Below.size (by assumption)) (Below.size (by assumption))) | (refine Nat.le_trans (Below.size (by assumption)) ?_; go_size)))))) 0 k true hk0).mono ?_
  clear hS
  rintro e w3 ⟨r2, rfl, hS⟩
  rw [progI_R]
  change KS w w3 w.heap.size 1 t b g (1 + 6 * t) ws0 [(r1, false, ⟨0, k, 1, 0, false⟩), (r2, true, ⟨0, k, 1, 0, false⟩)] at hS
  have en : (1 + 3 * (k : Int)).toNat = 1 + 3 * k := by omega
  have ew : (1 + 3 * (k : Int) + 1).toNat = 1 + 3 * k + 1 := by omega
  obtain ⟨u1, hu1⟩ : ∃ u1, u1 = ws0.set (1 + 3 * k) 0 := ⟨_, rfl⟩
  obtain ⟨u2, hu2⟩ : ∃ u2, u2 = u1.set (1 + 3 * k + 1) 1 := ⟨_, rfl⟩
  obtain ⟨u3, hu3⟩ : ∃ u3, u3 = u2.set 0 ((k : Int) + 1) := ⟨_, rfl⟩
  obtain ⟨u4, hu4⟩ : ∃ u4, u4 = u3.set 0 (0 : Int) := ⟨_, rfl⟩
  have L0 := HWL.out
  have L1 : u1.length = 1 + 6 * t := by rw [hu1, List.length_set, L0]
  have L2 : u2.length = 1 + 6 * t := by rw [hu2, List.length_set, L1]
  have L3 : u3.length = 1 + 6 * t := by rw [hu3, List.length_set, L2]
  have L4 : u4.length = 1 + 6 * t := by rw [hu4, List.length_set, L3]
  have G2 : u2.getD 0 0 = 0 := by rw [hu2, getD_set_ne _ _ (by omega), hu1, getD_set_ne _ _ (by omega), HZ.out]
  have G3 : u3.getD 0 0 = (k : Int) + 1 := by rw [hu3, getD_set_eq _ _ (by omega)]
  have G4 : u4.getD 0 0 = 0 := by rw [hu4, getD_set_eq _ _ (by omega)]
  have GN : u3.getD (1 + 3 * k) 0 = 0 := by rw [hu3, getD_set_ne _ _ (by omega), hu2, getD_set_ne _ _ (by omega), hu1, getD_set_eq _ _ (by omega)]
  have N1 : stpN false 1 t 2 ⟨0, k, 1, 0, false⟩ ws0 = some (⟨0, k, 3, 0, false⟩, u2) := by
    refine stpN_two (x' := ⟨0, k, 2, 0, false⟩) (ws' := u1) ?_ ?_
    · rw [stpA1 1 t 0 k 0 ws0 (by omega) (by omega), en, hu1]
    · rw [stpA2 1 t 0 k 0 u1 (by omega) (by omega), ew, hu2]
  have N2 : stpN false 1 t 1 ⟨0, k, 3, 0, false⟩ u2 = some (⟨0, k, 3, 0, true⟩, u3) := stpN_one (by rw [stpA3 1 t 0 k 0 u2 (by omega) (by omega) G2, hu3]; rfl)
  have N3 : stpN true 1 t 1 ⟨0, k, 1, 0, false⟩ u3 = some (⟨0, k, 2, 0, false⟩, u3) := stpN_one (by rw [stpR1 1 t 0 k 0 u3 (by omega) (by omega) (by rw [en]; exact GN)])
  have N4 : stpN true 1 t 1 ⟨0, k, 2, 0, false⟩ u3 = some (⟨0, k, 2, 0, true⟩, u4) := stpN_one (by rw [stpR2 1 t 0 k 0 u3 (by omega) (by omega) G3, hu4]; rfl)
  have M1 := Lib.hid N1
  have M2 := Lib.hid N2
  have M3 := Lib.hid N3
  have M4 := Lib.hid N4
  have V3 := Lib.hid (show doB u3 1 0 = (k : Int) + 1 ∧ doE u3 1 0 = 0 from ⟨by rw [doB_ok u3 1 0 (by omega) (by omega) (by omega)]; exact G3, doE_ok u3 1 0 (by omega) (by omega) (by omega)⟩)
  have V4 := Lib.hid (show doB u4 1 0 = 0 ∧ doE u4 1 0 = 0 from ⟨by rw [doB_ok u4 1 0 (by omega) (by omega) (by omega)]; exact G4, doE_ok u4 1 0 (by omega) (by omega) (by omega)⟩)
  clear N1 N2 N3 N4 G2 G3 G4 GN L0 L1 L2 L3 L4 hu1 hu2 hu3 hu4 en ew
  go_wp2_with fail
  refine (KS.steps (bk := false) (hS.step (by (repeat' (first | (with_reducible exact Below.refl _ _) | (with_reducible assumption) | (with_reducible refine Below.alloc ?_ ?_ _) | (with_reducible refine Below.drew ?_) | (with_reducible refine below_drewN ?_ _) | (with_reducible refine Below.setCell ?_ ?_ _) | (with_reducible refine Below.trans ?_ (Below.mono (by assumption) ?_)) | (first | go_size | (with_reducible exact Below.size (by assumption)) | (with_reducible exact Nat.le_trans (Below.size (by assumption)) (Below.size (by assumption))) | (refine Nat.le_trans (Below.size (by assumption)) ?_; go_size)))))) 0 2 false rfl M1.out rfl (by omega)).mono ?_
  clear hS
  rintro e w4 ⟨rfl, hS⟩
  go_wp2_with fail
  refine (KS.steps (bk := false) (hS.step (by (repeat' (first | (with_reducible exact Below.refl _ _) | (with_reducible assumption) | (with_reducible refine Below.alloc ?_ ?_ _) | (with_reducible refine Below.drew ?_) | (with_reducible refine below_drewN ?_ _) | (with_reducible refine Below.setCell ?_ ?_ _) | (with_reducible refine Below.trans ?_ (Below.mono (by assumption) ?_)) | (first | go_size | (with_reducible exact Below.size (by assumption)) | (with_reducible exact Nat.le_trans (Below.size (by assumption)) (Below.size (by assumption))) | (refine Nat.le_trans (Below.size (by assumption)) ?_; go_size)))))) 0 1 true rfl M2.out rfl (by omega)).mono ?_
  clear hS
  rintro e w5 ⟨rfl, hS⟩
  go_wp2_with fail
  refine (KS.word (hS.step (by (repeat' (first | (with_reducible exact Below.refl _ _) | (with_reducible assumption) | (with_reducible refine Below.alloc ?_ ?_ _) | (with_reducible refine Below.drew ?_) | (with_reducible refine below_drewN ?_ _) | (with_reducible refine Below.setCell ?_ ?_ _) | (with_reducible refine Below.trans ?_ (Below.mono (by assumption) ?_)) | (first | go_size | (with_reducible exact Below.size (by assumption)) | (with_reducible exact Nat.le_trans (Below.size (by assumption)) (Below.size (by assumption))) | (refine Nat.le_trans (Below.size (by assumption)) ?_; go_size)))))) 0 (k + 1) V3.out.1 V3.out.2).mono ?_
  clear hS
  rintro e w6 ⟨rfl, hS⟩
  go_wp2_with fail
  refine (KS.steps (bk := true) (hS.step (by (repeat' (first | (with_reducible exact Below.refl _ _) | (with_reducible assumption) | (with_reducible refine Below.alloc ?_ ?_ _) | (with_reducible refine Below.drew ?_) | (with_reducible refine below_drewN ?_ _) | (with_reducible refine Below.setCell ?_ ?_ _) | (with_reducible refine Below.trans ?_ (Below.mono (by assumption) ?_)) | (first | go_size | (with_reducible exact Below.size (by assumption)) | (with_reducible exact Nat.le_trans (Below.size (by assumption)) (Below.size (by assumption))) | (refine Nat.le_trans (Below.size (by assumption)) ?_; go_size)))))) 1 1 false rfl M3.out rfl (by omega)).mono ?_
  clear hS
  rintro e w7 ⟨rfl, hS⟩
  go_wp2_with fail
  refine (KS.steps (bk := true) (hS.step (by (repeat' (first | (with_reducible exact Below.refl _ _) | (with_reducible assumption) | (with_reducible refine Below.alloc ?_ ?_ _) | (with_reducible refine Below.drew ?_) | (with_reducible refine below_drewN ?_ _) | (with_reducible refine Below.setCell ?_ ?_ _) | (with_reducible refine Below.trans ?_ (Below.mono (by assumption) ?_)) | (first | go_size | (with_reducible exact Below.size (by assumption)) | (with_reducible exact Nat.le_trans (Below.size (by assumption)) (Below.size (by assumption))) | (refine Nat.le_trans (Below.size (by assumption)) ?_; go_size)))))) 1 1 true rfl M4.out rfl (by omega)).mono ?_
  clear hS
  rintro e w8 ⟨rfl, hS⟩
  go_wp2_with fail
  refine (KS.word (hS.step (by (repeat' (first | (with_reducible exact Below.refl _ _) | (with_reducible assumption) | (with_reducible refine Below.alloc ?_ ?_ _) | (with_reducible refine Below.drew ?_) | (with_reducible refine below_drewN ?_ _) | (with_reducible refine Below.setCell ?_ ?_ _) | (with_reducible refine Below.trans ?_ (Below.mono (by assumption) ?_)) | (first | go_size | (with_reducible exact Below.size (by assumption)) | (with_reducible exact Nat.le_trans (Below.size (by assumption)) (Below.size (by assumption))) | (refine Nat.le_trans (Below.size (by assumption)) ?_; go_size)))))) 0 0 V4.out.1 V4.out.2).mono ?_
  clear hS
  rintro e w9 ⟨rfl, hS⟩
  have hend := hS.below
  clear hS
  go_wp2_with (go_at_call 8; refine (known_ok _).mono ?_; rintro e w' ⟨rfl, hkb⟩)
  go_ret
  exact ⟨rfl, by (repeat' (first | (with_reducible exact Below.refl _ _) | (with_reducible assumption) | (with_reducible refine Below.alloc ?_ ?_ _) | (with_reducible refine Below.drew ?_) | (with_reducible refine below_drewN ?_ _) | (with_reducible refine Below.setCell ?_ ?_ _) | (with_reducible refine Below.trans ?_ (Below.mono (by assumption) ?_)) | (first | go_size | (with_reducible exact Below.size (by assumption)) | (with_reducible exact Nat.le_trans (Below.size (by assumption)) (Below.size (by assumption))) | (refine Nat.le_trans (Below.size (by assumption)) ?_; go_size))))⟩
end McsAlone
end Go.Proofs.Ytmlhdcpahfgckaa
