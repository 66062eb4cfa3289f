/-
  The law TraceFits holds at every input: the call returns true, and every argument reads behind it as it read before.
-/
import Derived.Test.YtpndlggahdefcaaWTraceFits
import Derived.Test.YtpndlggahdefcaaOpen3
import Derived.ProofKit
namespace Go.Proofs.Ytpndlggahdefcaa.TraceFits
open Go.ChangeShapes Go.WideShapes Go.ChangeAt Go.RowKit
set_option linter.unusedVariables false
set_option linter.unusedSimpArgs false

theorem own : ownKnob Try.prog.godebug = none := by kernel_rfl
theorem cells30 : Try.prog.cellsOf 30 = 1 := by kernel_rfl
theorem cells47 : Try.prog.cellsOf 47 = 7 := by kernel_rfl
theorem laidOut : laidOutB Try.prog = true := by kernel_rfl

set_option maxRecDepth 100000 in
theorem lifted (os : Os) (started : os.Started) (H : Type) (enc : TypeId × Value → H) :
    ReturnsInHanded {} Try.checked os 5 .any (Rows.traceFitsSpec.pre6 enc Try.prog Try.f5 Rows.traceFitsRow.domain false) (Rows.traceFitsSpec.post enc Try.prog Try.f5 false true false false) := by
  refine returnsInHanded_of_change (C := Try.checked) own started (by kernel_rfl) Try.func5
    (ChangeSpec.witness6 (enc := enc) (C := Try.checked) false ⟨#[], #[.slice none 0 0, .slice none 0 0], []⟩ 8 (by kernel_rfl) (by kernel_rfl) (by kernel_rfl) (by kernel_rfl)) ?_
  intro W base args ds gs before hval0 hW hcnd _
  have hval : ∀ (j : Nat) t v, Try.f5.params[j]? = some t → args[j]? = some v → Value.okWide Try.prog W .any base t v := hval0
  have hW' := hW
  obtain ⟨p, q, hA0, hV, rfl, hfz, hnd⟩ := hW
  have hA : DataW.TrodAll enc Try.prog W 0 (fun _ => true) true Try.f5.params.toList args.toList ds p := hA0
  rw [Try.params5] at hA hval
  obtain ⟨v0, vs0, d0, ds0, p0, q0, hargs, rfl, rfl, h0, r_0⟩ := trodAll_cons hA
  obtain ⟨v1, vs1, d1, ds1, p1, q1, rfl, rfl, rfl, h1, r_1⟩ := trodAll_cons r_0
  obtain ⟨rfl, rfl, rfl⟩ := trodAll_nil r_1
  obtain rfl : args = #[v0, v1] := by cases args; simp_all
  obtain ⟨rfl, rfl⟩ := trodVars_none hV
  have k0 := h0
  obtain ⟨A0, n0, c0, x0, rfl, l0, m0, b0, z0, r0, y0⟩ := open_rd Try.underlying22 Try.underlying30 cells30 (hval 0 22 v0 rfl rfl) h0
  have k1 := h1
  obtain ⟨A1, n1, c1, x1, rfl, l1, m1, b1, z1, r1, y1⟩ := open_flat [.num .i64, .num .i64, .num .i64, .num .u64, .num .u64, .truth, .truth] Try.underlying42 (leafy_struct Try.underlying47 [[.num .i64], [.num .i64, .num .i64, .num .u64, .num .u64], [.truth], [.truth]] rfl (by kernel_rfl) (by intro j hj; match j, hj with | 0, _ => exact ⟨_, _, rfl, rfl, rfl, (leafy_int Try.underlying3 (by kernel_rfl))⟩ | 1, _ => exact ⟨_, _, rfl, rfl, rfl, (leafy_struct Try.underlying45 [[.num .i64], [.num .i64], [.num .u64], [.num .u64]] rfl (by kernel_rfl) (by intro j hj; match j, hj with | 0, _ => exact ⟨_, _, rfl, rfl, rfl, (leafy_int Try.underlying43 (by kernel_rfl))⟩ | 1, _ => exact ⟨_, _, rfl, rfl, rfl, (leafy_int Try.underlying3 (by kernel_rfl))⟩ | 2, _ => exact ⟨_, _, rfl, rfl, rfl, (leafy_int Try.underlying30 (by kernel_rfl))⟩ | 3, _ => exact ⟨_, _, rfl, rfl, rfl, (leafy_int Try.underlying30 (by kernel_rfl))⟩ | n + 4, h => exact absurd h (by simp)))⟩ | 2, _ => exact ⟨_, _, rfl, rfl, rfl, (leafy_bool Try.underlying4 (by kernel_rfl))⟩ | 3, _ => exact ⟨_, _, rfl, rfl, rfl, (leafy_bool Try.underlying4 (by kernel_rfl))⟩ | n + 4, h => exact absurd h (by simp))) (by decide) (hval 1 42 v1 rfl rfl) h1
  clear hA0 hval0
  simp only [List.append_nil, List.nil_append] at hW'
  refine (TraceFits.walk A0 n0 c0 x0 l0 m0 b0 z0 A1 n1 c1 x1 l1 m1 b1 z1 W r0 y0 r1 y1 ).mono fun e W' ⟨he, hg⟩ => ?_
  subst he
  have hlt : ∀ x ∈ (p0 ++ (p1 ++ [])), x.block < W.heap.size := fun x hx => hW'.lt x (by simpa using hx)
  exact ⟨_, rfl, post_new (pa := (p0 ++ (p1 ++ []))) (pv := []) hW' (fun _ _ _ => (trodAll_cons_mk (shut_bool Try.underlying4 _) trodAll_mk0)) (fun sp hsp => (trodAll_cons_mk (stay laidOut (by kernel_rfl) (of_decide_eq_true (by kernel_rfl)) k0 hg (fun x hx => hlt x (by simp [hx])) sp (fun x hx => hsp x (by simp [hx]))) (trodAll_cons_mk (stay laidOut (by kernel_rfl) (of_decide_eq_true (by kernel_rfl)) k1 hg (fun x hx => hlt x (by simp [hx])) sp (fun x hx => hsp x (by simp [hx]))) trodAll_mk0))) (fun _ _ => rfl) (by simp)
    hg (ok_one (by kernel_rfl) rfl (okWide_bool_mk Try.underlying4 _))⟩

theorem holds : Rows.TraceFitsSaid :=
  OpenClaim.holds_of_wide 5 Try.f5 rfl rfl rfl rfl rfl rfl rfl ⟨rfl, rfl, rfl, rfl, rfl⟩ rfl rfl rfl rfl rfl (by kernel_rfl) Try.func5 (by kernel_rfl)
    (of_decide_eq_true (by kernel_rfl)) (by unfold Func.isWrapper; first | (rw [if_pos (by decide +kernel)]; kernel_rfl) | (rw [if_neg (by decide +kernel)]; exact ⟨rfl, rfl⟩))
    (fun os started H enc _ => lifted os started H enc)
#print axioms holds
end Go.Proofs.Ytpndlggahdefcaa.TraceFits
