/-
  The walk of ModesGrants: it returns true at every input.
-/
import Derived.Test.YtcnbjpbohhfmoaaDoorK06
import Derived.Test.YtcnbjpbohhfmoaaDoorModes7
import Derived.Deep.DeepCutAuto
namespace Go.Proofs.YtcnbjpbohhfmoaaDoor
open Go.RowKit
namespace ModesGrants
theorem wf_i64 {x : Int} (h : (Lit.int .i64 x).wf = true) : -9223372036854775808 ≤ x ∧ x ≤ 9223372036854775807 := by
  simp [Lit.wf, IntKind.min, IntKind.max, IntKind.signed, IntKind.bits] at h
  omega
set_option maxRecDepth 100000 in
set_option maxHeartbeats 2000000 in
theorem walk (A : Option Addr) (n c : Nat) (xs : List Int) (l : xs.length = n) (m : n ≤ c) (_b : c ≤ 9223372036854775807) (z : A = none → c = 0)
    (A2 : Option Addr) (n2 c2 : Nat) (xs2 : List Int) (l2 : xs2.length = n2) (m2 : n2 ≤ c2) (_b2 : c2 ≤ 9223372036854775807) (z2 : A2 = none → c2 = 0) (g : Int) (wg : (Lit.int .i64 g).wf = true)
    (w : World) (r : Rd (fun b => b < w.heap.size) w A (xs.map (Value.int .i64))) (_y : ∀ x ∈ xs, (Lit.int .i64 x).wf = true) (r2 : Rd (fun b => b < w.heap.size) w A2 (xs2.map (Value.int .i64))) (_y2 : ∀ x ∈ xs2, (Lit.int .i64 x).wf = true) (ht : Tab w) (ht2 : Tab2 w) :
    Calls Tryd.prog 6 #[.slice A n c, .slice A2 n2 c2, .int .i64 g] w fun e w' => e = .returned (.bool true) ∧ Below w.heap.size w w' := by
  have hg := wf_i64 wg
  have hr : Rd (fun b => b < w.heap.size) w A (ints xs) := r
  have hr2 : Rd (fun b => b < w.heap.size) w A2 (ints xs2) := r2
  have HL := Lib.hid l
  have HL2 := Lib.hid l2
  clear r r2 _y _y2 l l2 wg
  by_cases hb : 40 < n ∨ 40 < n2
  · have d1 : decide (40 < (n : Int)) = decide (40 < n) := by rw [decide_eq_decide]; omega
    have d2 : decide (40 < (n2 : Int)) = decide (40 < n2) := by rw [decide_eq_decide]; omega
    go_enter Tryd.func6, Tryd.ntmps6
    go_wp2_with (first | (go_at_call 14; refine (known_ok _ (ht.below (by (repeat' (first | (with_reducible exact Below.refl _ _) | (with_reducible assumption) | (with_reducible refine Below.alloc ?_ ?_ _) | (with_reducible refine Below.drew ?_) | (with_reducible refine below_drewN ?_ _) | (with_reducible refine Below.setCell ?_ ?_ _) | (with_reducible refine Below.trans ?_ (Below.mono (by assumption) ?_)) | (first | go_size | (with_reducible exact Below.size (by assumption)) | (with_reducible exact Nat.le_trans (Below.size (by assumption)) (Below.size (by assumption))) | (refine Nat.le_trans (Below.size (by assumption)) ?_; go_size)))))) (ht2.below (by (repeat' (first | (with_reducible exact Below.refl _ _) | (with_reducible assumption) | (with_reducible refine Below.alloc ?_ ?_ _) | (with_reducible refine Below.drew ?_) | (with_reducible refine below_drewN ?_ _) | (with_reducible refine Below.setCell ?_ ?_ _) | (with_reducible refine Below.trans ?_ (Below.mono (by assumption) ?_)) | (first | go_size | (with_reducible exact Below.size (by assumption)) | (with_reducible exact Nat.le_trans (Below.size (by assumption)) (Below.size (by assumption))) | (refine Nat.le_trans (Below.size (by assumption)) ?_; go_size))))))).mono ?_; rintro e w' ⟨rfl, hg⟩))
    all_goals first
      | (go_ret; exact ⟨rfl, by (repeat' (first | (with_reducible exact Below.refl _ _) | (with_reducible assumption) | (with_reducible refine Below.alloc ?_ ?_ _) | (with_reducible refine Below.drew ?_) | (with_reducible refine below_drewN ?_ _) | (with_reducible refine Below.setCell ?_ ?_ _) | (with_reducible refine Below.trans ?_ (Below.mono (by assumption) ?_)) | (first | go_size | (with_reducible exact Below.size (by assumption)) | (with_reducible exact Nat.le_trans (Below.size (by assumption)) (Below.size (by assumption))) | (refine Nat.le_trans (Below.size (by assumption)) ?_; go_size))))⟩)
      | (exfalso; omega)
  have h1 : n ≤ 40 := by omega
  have h2 : n2 ≤ 40 := by omega
  have d1 : decide (40 < (n : Int)) = false := decide_eq_false (by omega)
  have d2 : decide (40 < (n2 : Int)) = false := decide_eq_false (by omega)
  clear hb
  obtain ⟨i0, hi0, hz0, hz1, hz2⟩ := info_parts modeInfo
  have hmk := make_90
  generalize hZ : (List.replicate 90 (Value.int .i64 0)).toArray = Z at hmk
  have ho90 : ∀ (W : World) (k : Nat), W.heap.size = k → w.heap.size ≤ k → (W.alloc (.cells Z 22)).ownsRow w.heap.size 22 1 (.slice (some ⟨k, 0, none⟩) 0 90) 0 [] := fun W k h1 h2 => by subst h1; rw [← hZ]; exact own90 W w.heap.size h2
  have HO := Lib.hid ho90
  have h0 := Below.refl w.heap.size w
  clear hZ ho90
  have q0 : 0 < 1 := by omega
  have q1 : (ints xs).length = n * 1 := by simp [ints]; exact HL.out
  have p1 : (ints xs2).length = n2 * 1 := by simp [ints]; exact HL2.out
  have q2 : ∀ u ∈ ints xs, u.oneCell' = true := oneCell_ints _ _
  have p2 : ∀ u ∈ ints xs2, u.oneCell' = true := oneCell_ints _ _
  have q3 : 0 + n ≤ maxLen := by unfold maxLen; omega
  have p3 : 0 + n2 ≤ maxLen := by unfold maxLen; omega
  have q4 : (0 + n) * 8 ≤ 140737488355328 := by omega
  have p4 : (0 + n2) * 8 ≤ 140737488355328 := by omega
  go_enter Tryd.func6, Tryd.ntmps6
  go_upto_region 3 with fail
  go_cut [7, 8] (fun s7 s8 wx => ∃ A7 c7 A8 c8, s7 = .slice A7 n c7 ∧ s8 = .slice A8 n2 c8 ∧ Rd (fun _ => True) wx A7 (ints xs) ∧ Rd (fun _ => True) wx A8 (ints xs2) ∧ n ≤ c7 ∧ n2 ≤ c8 ∧ (A7 = none → c7 = 0) ∧ (A8 = none → c8 = 0) ∧ Below w.heap.size w wx)
  case first =>
    go_region_law (first
      | ((refine step_append_rd rfl (.tmp 20) (.tmp 21) 30 rfl w.heap.size 22 i0 _ 1 8 Tryd.underlying30 hi0 hz0 hz1 hz2 rfl q0 (.slice (some ⟨_, 0, none⟩) 0 90) 0 [] rfl ?_ (G := fun b => b < w.heap.size) A n c (ints xs) rfl ?_ z q1 q2 q3 q4 ?_ ?_); (focus ((repeat' (first | ((with_reducible refine HO.out _ _ ?_ ?_); (focus (first | (with_reducible rfl) | ((repeat (first | rw [World.size_alloc] | rw [World.size_drew])); done))); (focus (first | omega | ((repeat (first | rw [World.size_alloc] | rw [World.size_drew])); omega)))) | (with_reducible refine own_keep ?_ ((Ch.refl (fun _ => False) _).drew) (fun _ _ _ e => e)) | (with_reducible refine own_keep ?_ ((Ch.refl (fun _ => False) _).alloc _) (fun _ _ _ e => e)) | ((with_reducible refine own_keep ?_ hcha (fun k hk _ e => ?_)); rotate_left; (focus (simp only [Value.ownBlock, Option.some.injEq] at hk e; omega))) | ((with_reducible refine own_keep ?_ hchb (fun k hk _ e => ?_)); rotate_left; (focus (simp only [Value.ownBlock, Option.some.injEq] at hk e; omega))))))); (focus ((repeat' (first | (with_reducible exact hr) | (with_reducible refine Rd.keep ?_ ((Ch.refl (fun _ => False) _).drew) (fun _ _ _ e => e)) | (with_reducible refine Rd.keep ?_ ((Ch.refl (fun _ => False) _).alloc _) (fun _ _ _ e => e)) | ((with_reducible refine Rd.keep ?_ hcha (fun k _ hk e => ?_)); rotate_left; (focus (simp only [Value.ownBlock, Option.some.injEq] at e; omega))) | ((with_reducible refine Rd.keep ?_ hchb (fun k _ hk e => ?_)); rotate_left; (focus (simp only [Value.ownBlock, Option.some.injEq] at e; omega))))))); (focus ((first | omega | ((repeat (first | rw [World.size_alloc] | rw [World.size_drew])); omega)))); intro va wa howna hcha hata; have sza := hcha.size; (repeat (first | rw [World.size_alloc] at sza | rw [World.size_drew] at sza)))
      | ((refine step_append_rd rfl (.tmp 23) (.tmp 24) 30 rfl w.heap.size 22 i0 _ 1 8 Tryd.underlying30 hi0 hz0 hz1 hz2 rfl q0 (.slice (some ⟨_, 0, none⟩) 0 90) 0 [] rfl ?_ (G := fun b => b < w.heap.size) A2 n2 c2 (ints xs2) rfl ?_ z2 p1 p2 p3 p4 ?_ ?_); (focus ((repeat' (first | ((with_reducible refine HO.out _ _ ?_ ?_); (focus (first | (with_reducible rfl) | ((repeat (first | rw [World.size_alloc] | rw [World.size_drew])); done))); (focus (first | omega | ((repeat (first | rw [World.size_alloc] | rw [World.size_drew])); omega)))) | (with_reducible refine own_keep ?_ ((Ch.refl (fun _ => False) _).drew) (fun _ _ _ e => e)) | (with_reducible refine own_keep ?_ ((Ch.refl (fun _ => False) _).alloc _) (fun _ _ _ e => e)) | ((with_reducible refine own_keep ?_ hcha (fun k hk _ e => ?_)); rotate_left; (focus (simp only [Value.ownBlock, Option.some.injEq] at hk e; omega))) | ((with_reducible refine own_keep ?_ hchb (fun k hk _ e => ?_)); rotate_left; (focus (simp only [Value.ownBlock, Option.some.injEq] at hk e; omega))))))); (focus ((repeat' (first | (with_reducible exact hr2) | (with_reducible refine Rd.keep ?_ ((Ch.refl (fun _ => False) _).drew) (fun _ _ _ e => e)) | (with_reducible refine Rd.keep ?_ ((Ch.refl (fun _ => False) _).alloc _) (fun _ _ _ e => e)) | ((with_reducible refine Rd.keep ?_ hcha (fun k _ hk e => ?_)); rotate_left; (focus (simp only [Value.ownBlock, Option.some.injEq] at e; omega))) | ((with_reducible refine Rd.keep ?_ hchb (fun k _ hk e => ?_)); rotate_left; (focus (simp only [Value.ownBlock, Option.some.injEq] at e; omega))))))); (focus ((first | omega | ((repeat (first | rw [World.size_alloc] | rw [World.size_drew])); omega)))); intro vb wb hownb hchb hatb; have szb := hchb.size; (repeat (first | rw [World.size_alloc] at szb | rw [World.size_drew] at szb))))
    all_goals
      go_wp2_with fail
      go_meet
      simp only [Nat.zero_add, List.nil_append] at howna hownb
      have hBa : Below w.heap.size w wa := Below.trans (show Below w.heap.size w _ by (repeat' (first | (with_reducible exact Below.refl _ _) | (with_reducible assumption) | (with_reducible refine Below.alloc ?_ ?_ _) | (with_reducible refine Below.drew ?_) | (with_reducible refine below_drewN ?_ _) | (with_reducible refine Below.setCell ?_ ?_ _) | (with_reducible refine Below.trans ?_ (Below.mono (by assumption) ?_)) | (first | go_size | (with_reducible exact Below.size (by assumption)) | (with_reducible exact Nat.le_trans (Below.size (by assumption)) (Below.size (by assumption))) | (refine Nat.le_trans (Below.size (by assumption)) ?_; go_size))))) (hcha.below (fun j _ e => by simp only [Value.ownBlock, Option.some.injEq] at e; omega) (by (first | omega | ((repeat (first | rw [World.size_alloc] | rw [World.size_drew])); omega))))
      have hBb : Below w.heap.size w wb := Below.trans (show Below w.heap.size w _ by (repeat' (first | (with_reducible exact Below.refl _ _) | (with_reducible assumption) | (with_reducible refine Below.alloc ?_ ?_ _) | (with_reducible refine Below.drew ?_) | (with_reducible refine below_drewN ?_ _) | (with_reducible refine Below.setCell ?_ ?_ _) | (with_reducible refine Below.trans ?_ (Below.mono (by assumption) ?_)) | (first | go_size | (with_reducible exact Below.size (by assumption)) | (with_reducible exact Nat.le_trans (Below.size (by assumption)) (Below.size (by assumption))) | (refine Nat.le_trans (Below.size (by assumption)) ?_; go_size))))) (hchb.below (fun j _ e => by simp only [Value.ownBlock, Option.some.injEq] at e; omega) (by (first | omega | ((repeat (first | rw [World.size_alloc] | rw [World.size_drew])); omega))))
      have hoa : wb.ownsRow w.heap.size 22 1 va n (ints xs) := by
        repeat' (first | (with_reducible exact howna) | (with_reducible refine own_keep ?_ ((Ch.refl (fun _ => False) _).drew) (fun _ _ _ e => e)) | (with_reducible refine own_keep ?_ ((Ch.refl (fun _ => False) _).alloc _) (fun _ _ _ e => e)) | ((with_reducible refine own_keep ?_ hchb (fun k hk _ e => ?_)); rotate_left; (focus (have hlt := own_lt howna hk; rcases hata with h | h <;> rw [h] at hk <;> simp only [Value.ownBlock, Option.some.injEq, World.size_alloc, World.size_drew] at hk e <;> omega))))
      obtain ⟨A7, c7, rfl, k7, z7⟩ := own_slice hoa
      obtain ⟨A8, c8, rfl, k8, z8⟩ := own_slice hownb
      exact ⟨A7, c7, A8, c8, rfl, rfl, (Rd.of_own hoa).mono (fun _ _ _ => trivial), (Rd.of_own hownb).mono (fun _ _ _ => trivial), k7, k8, z7, z8, by (repeat' (first | (with_reducible exact Below.refl _ _) | (with_reducible assumption) | (with_reducible refine Below.alloc ?_ ?_ _) | (with_reducible refine Below.drew ?_) | (with_reducible refine below_drewN ?_ _) | (with_reducible refine Below.setCell ?_ ?_ _) | (with_reducible refine Below.trans ?_ (Below.mono (by assumption) ?_)) | (first | go_size | (with_reducible exact Below.size (by assumption)) | (with_reducible exact Nat.le_trans (Below.size (by assumption)) (Below.size (by assumption))) | (refine Nat.le_trans (Below.size (by assumption)) ?_; go_size))))⟩
  case rest =>
    obtain ⟨A7, c7, A8, c8, rfl, rfl, hr7, hr8, k7, k8, z7, z8, hB⟩ := hcut
    have hrw : Rd (fun b => b < w.heap.size) wc A (ints xs) := hr.keep (Ch.of_below hB (fun _ => False)) (fun _ _ _ e => e)
    have hrw2 : Rd (fun b => b < w.heap.size) wc A2 (ints xs2) := hr2.keep (Ch.of_below hB (fun _ => False)) (fun _ _ _ e => e)
    go_wp2_with fail
    refine (grants_any A7 A8 xs xs2 n c7 n2 c8 g _ (ht.below hB) hr7 z7 HL.out (by omega) hr8 HL2.out (by omega) hg.1 hg.2).mono ?_
    rintro e w1 ⟨rfl, hB1⟩
    have hB1' := hB.trans (hB1.mono hB.size)
    go_wp2_with fail
    refine (rgrants_any A A2 xs xs2 n c n2 c2 g _ ((hrw.keep (Ch.of_below hB1 (fun _ => False)) (fun _ _ _ e => e)).mono (fun _ _ _ => trivial)) z HL.out (by omega) ((hrw2.keep (Ch.of_below hB1 (fun _ => False)) (fun _ _ _ e => e)).mono (fun _ _ _ => trivial)) HL2.out (by omega) hg.1 hg.2).mono ?_
    rintro e w2 ⟨rfl, hB2⟩
    have hB12 := hB1.trans (hB2.mono hB1.size)
    have hq7 := hr7.keep (Ch.of_below hB12 (fun _ => False)) (fun _ _ _ e => e)
    have hq8 := hr8.keep (Ch.of_below hB12 (fun _ => False)) (fun _ _ _ e => e)
    have hqw := hrw.keep (Ch.of_below hB12 (fun _ => False)) (fun _ _ _ e => e)
    have hqw2 := hrw2.keep (Ch.of_below hB12 (fun _ => False)) (fun _ _ _ e => e)
    have hBw := hB.trans (hB12.mono hB.size)
    clear hB1 hB2 hB12 hB1' hr7 hr8 hrw hrw2 hB
    go_wp2_with fail
    go_loopg [51] n (fun gk v51 wr => ∃ (k q : Nat), gk = n - k ∧ v51 = .int .i64 k ∧ k ≤ n ∧ wr = w2.drewN q)
    case atStart => exact ⟨0, 0, rfl, rfl, Nat.zero_le _, rfl⟩
    case round =>
      obtain ⟨k, q, rfl, rfl, hk, rfl⟩ := hrel
      by_cases hlt : k < n
      · (have hx := List.getElem?_eq_getElem (show k < (xs).length by rw [(HL).out]; exact hlt); obtain ⟨bA, oA, eA, _, hca⟩ := (hq7).at (j := k) (by simp [ints]; rw [(HL).out]; exact hlt); obtain ⟨bB, oB, eB, _, hcb⟩ := (hqw).at (j := k) (by simp [ints]; rw [(HL).out]; exact hlt); simp only [ints, List.getElem_map] at hca hcb; generalize (xs)[k]'(by rw [(HL).out]; exact hlt) = X at hca hcb hx; subst eA eB; have i1 : (0 : Int) ≤ k := Int.natCast_nonneg _; have i2 : (k : Int) < (n : Nat) := (by omega); clear hx; go_wp2_with (go_quiet (fail)); go_roundg ((n) - (k + 1)); (case measure => omega); (case rel => exact ⟨k + 1, _, rfl, by go_num, by omega, by first | rfl | exact World.drewN_drewN _ _ _⟩))
      · obtain rfl : k = n := by omega
        go_wp2_with fail
        go_loopg [66] n2 (fun gk v66 wr => ∃ (i q : Nat), gk = n2 - i ∧ v66 = .int .i64 i ∧ i ≤ n2 ∧ wr = w2.drewN q)
        case atStart => exact ⟨0, q, rfl, rfl, Nat.zero_le _, rfl⟩
        case round =>
          obtain ⟨k2, q, rfl, rfl, hk2, rfl⟩ := hrel
          by_cases hlt2 : k2 < n2
          · (have hx := List.getElem?_eq_getElem (show k2 < (xs2).length by rw [(HL2).out]; exact hlt2); obtain ⟨bA, oA, eA, _, hca⟩ := (hq8).at (j := k2) (by simp [ints]; rw [(HL2).out]; exact hlt2); obtain ⟨bB, oB, eB, _, hcb⟩ := (hqw2).at (j := k2) (by simp [ints]; rw [(HL2).out]; exact hlt2); simp only [ints, List.getElem_map] at hca hcb; generalize (xs2)[k2]'(by rw [(HL2).out]; exact hlt2) = X at hca hcb hx; subst eA eB; have i1 : (0 : Int) ≤ k2 := Int.natCast_nonneg _; have i2 : (k2 : Int) < (n2 : Nat) := (by omega); clear hx; go_wp2_with (go_quiet (fail)); go_roundg ((n2) - (k2 + 1)); (case measure => omega); (case rel => exact ⟨k2 + 1, _, rfl, by go_num, by omega, by first | rfl | exact World.drewN_drewN _ _ _⟩))
          · obtain rfl : k2 = n2 := by omega
            go_wp2_with (go_at_call 14; refine (known_ok _ (ht.below (by (repeat' (first | (with_reducible exact Below.refl _ _) | (with_reducible assumption) | (with_reducible refine Below.alloc ?_ ?_ _) | (with_reducible refine Below.drew ?_) | (with_reducible refine below_drewN ?_ _) | (with_reducible refine Below.setCell ?_ ?_ _) | (with_reducible refine Below.trans ?_ (Below.mono (by assumption) ?_)) | (first | go_size | (with_reducible exact Below.size (by assumption)) | (with_reducible exact Nat.le_trans (Below.size (by assumption)) (Below.size (by assumption))) | (refine Nat.le_trans (Below.size (by assumption)) ?_; go_size)))))) (ht2.below (by (repeat' (first | (with_reducible exact Below.refl _ _) | (with_reducible assumption) | (with_reducible refine Below.alloc ?_ ?_ _) | (with_reducible refine Below.drew ?_) | (with_reducible refine below_drewN ?_ _) | (with_reducible refine Below.setCell ?_ ?_ _) | (with_reducible refine Below.trans ?_ (Below.mono (by assumption) ?_)) | (first | go_size | (with_reducible exact Below.size (by assumption)) | (with_reducible exact Nat.le_trans (Below.size (by assumption)) (Below.size (by assumption))) | (refine Nat.le_trans (Below.size (by assumption)) ?_; go_size))))))).mono ?_; rintro e w' ⟨rfl, hg⟩)
            go_ret
            exact ⟨rfl, by (repeat' (first | (with_reducible exact Below.refl _ _) | (with_reducible assumption) | (with_reducible refine Below.alloc ?_ ?_ _) | (with_reducible refine Below.drew ?_) | (with_reducible refine below_drewN ?_ _) | (with_reducible refine Below.setCell ?_ ?_ _) | (with_reducible refine Below.trans ?_ (Below.mono (by assumption) ?_)) | (first | go_size | (with_reducible exact Below.size (by assumption)) | (with_reducible exact Nat.le_trans (Below.size (by assumption)) (Below.size (by assumption))) | (refine Nat.le_trans (Below.size (by assumption)) ?_; go_size))))⟩
end ModesGrants
end Go.Proofs.YtcnbjpbohhfmoaaDoor
