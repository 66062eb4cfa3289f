/-
  The law TraceLooks holds at every input: the call returns true, and every argument reads behind it as it read before.
-/
import Derived.Test.YtpndlggahdefcaaWTraceLooks
import Derived.Test.YtpndlggahdefcaaOpen3
import Derived.ProofKit
namespace Go.Proofs.Ytpndlggahdefcaa.TraceLooks
open Go.ChangeShapes Go.WideShapes Go.ChangeAt Go.RowKit
set_option linter.unusedVariables false
set_option linter.unusedSimpArgs false

theorem own : ownKnob Try.prog.godebug = none := by kernel_rfl
theorem cells47 : Try.prog.cellsOf 47 = 7 := by kernel_rfl
theorem laidOut : laidOutB Try.prog = true := by kernel_rfl

set_option maxRecDepth 100000 in
theorem lifted (os : Os) (started : os.Started) (H : Type) (enc : TypeId × Value → H) :
    ReturnsInHanded {} Try.checked os 4 .any (Rows.traceLooksSpec.pre6 enc Try.prog Try.f4 Rows.traceLooksRow.domain false) (Rows.traceLooksSpec.post enc Try.prog Try.f4 false true false false) := by
  refine returnsInHanded_of_change (C := Try.checked) own started (by kernel_rfl) Try.func4
    (ChangeSpec.witness6 (enc := enc) (C := Try.checked) false ⟨#[], #[.slice none 0 0, .int .i64 0, .int .i64 0], []⟩ 8 (by kernel_rfl) (by kernel_rfl) (by kernel_rfl) (by kernel_rfl)) ?_
  intro W base args ds gs before hval0 hW hcnd _
  have hval : ∀ (j : Nat) t v, Try.f4.params[j]? = some t → args[j]? = some v → Value.okWide Try.prog W .any base t v := hval0
  have hW' := hW
  obtain ⟨p, q, hA0, hV, rfl, hfz, hnd⟩ := hW
  have hA : DataW.TrodAll enc Try.prog W 0 (fun _ => true) true Try.f4.params.toList args.toList ds p := hA0
  rw [Try.params4] at hA hval
  obtain ⟨v0, vs0, d0, ds0, p0, q0, hargs, rfl, rfl, h0, r_0⟩ := trodAll_cons hA
  obtain ⟨v1, vs1, d1, ds1, p1, q1, rfl, rfl, rfl, h1, r_1⟩ := trodAll_cons r_0
  obtain ⟨v2, vs2, d2, ds2, p2, q2, rfl, rfl, rfl, h2, r_2⟩ := trodAll_cons r_1
  obtain ⟨rfl, rfl, rfl⟩ := trodAll_nil r_2
  obtain rfl : args = #[v0, v1, v2] := by cases args; simp_all
  obtain ⟨rfl, rfl⟩ := trodVars_none hV
  have k0 := h0
  obtain ⟨A0, n0, c0, x0, rfl, l0, m0, b0, z0, r0, y0⟩ := open_flat [.num .i64, .num .i64, .num .i64, .num .u64, .num .u64, .truth, .truth] Try.underlying42 (leafy_struct Try.underlying47 [[.num .i64], [.num .i64, .num .i64, .num .u64, .num .u64], [.truth], [.truth]] rfl (by kernel_rfl) (by intro j hj; match j, hj with | 0, _ => exact ⟨_, _, rfl, rfl, rfl, (leafy_int Try.underlying3 (by kernel_rfl))⟩ | 1, _ => exact ⟨_, _, rfl, rfl, rfl, (leafy_struct Try.underlying45 [[.num .i64], [.num .i64], [.num .u64], [.num .u64]] rfl (by kernel_rfl) (by intro j hj; match j, hj with | 0, _ => exact ⟨_, _, rfl, rfl, rfl, (leafy_int Try.underlying43 (by kernel_rfl))⟩ | 1, _ => exact ⟨_, _, rfl, rfl, rfl, (leafy_int Try.underlying3 (by kernel_rfl))⟩ | 2, _ => exact ⟨_, _, rfl, rfl, rfl, (leafy_int Try.underlying30 (by kernel_rfl))⟩ | 3, _ => exact ⟨_, _, rfl, rfl, rfl, (leafy_int Try.underlying30 (by kernel_rfl))⟩ | n + 4, h => exact absurd h (by simp)))⟩ | 2, _ => exact ⟨_, _, rfl, rfl, rfl, (leafy_bool Try.underlying4 (by kernel_rfl))⟩ | 3, _ => exact ⟨_, _, rfl, rfl, rfl, (leafy_bool Try.underlying4 (by kernel_rfl))⟩ | n + 4, h => exact absurd h (by simp))) (by decide) (hval 0 42 v0 rfl rfl) h0
  obtain ⟨a1, rfl, rfl, rfl, w1⟩ := open_int Try.underlying3 (hval 1 3 v1 rfl rfl) h1
  obtain ⟨a2, rfl, rfl, rfl, w2⟩ := open_int Try.underlying3 (hval 2 3 v2 rfl rfl) h2
  clear hA0 hval0
  simp only [List.append_nil, List.nil_append] at hW'
  refine (TraceLooks.walk A0 n0 c0 x0 l0 m0 b0 z0 a1 w1 a2 w2 W r0 y0 ).mono fun e W' ⟨he, hg⟩ => ?_
  subst he
  have hlt : ∀ x ∈ (p0 ++ ([] ++ ([] ++ []))), x.block < W.heap.size := fun x hx => hW'.lt x (by simpa using hx)
  exact ⟨_, rfl, post_new (pa := (p0 ++ ([] ++ ([] ++ [])))) (pv := []) hW' (fun _ _ _ => (trodAll_cons_mk (shut_bool Try.underlying4 _) trodAll_mk0)) (fun sp hsp => (trodAll_cons_mk (stay laidOut (by kernel_rfl) (of_decide_eq_true (by kernel_rfl)) k0 hg (fun x hx => hlt x (by simp [hx])) sp (fun x hx => hsp x (by simp [hx]))) (trodAll_cons_mk (shut_int Try.underlying3 w1) (trodAll_cons_mk (shut_int Try.underlying3 w2) trodAll_mk0)))) (fun _ _ => rfl) (by simp)
    hg (ok_one (by kernel_rfl) rfl (okWide_bool_mk Try.underlying4 _))⟩

theorem holds : Rows.TraceLooksSaid :=
  OpenClaim.holds_of_wide 4 Try.f4 rfl rfl rfl rfl rfl rfl rfl ⟨rfl, rfl, rfl, rfl, rfl⟩ rfl rfl rfl rfl rfl (by kernel_rfl) Try.func4 (by kernel_rfl)
    (of_decide_eq_true (by kernel_rfl)) (by unfold Func.isWrapper; first | (rw [if_pos (by decide +kernel)]; kernel_rfl) | (rw [if_neg (by decide +kernel)]; exact ⟨rfl, rfl⟩))
    (fun os started H enc _ => lifted os started H enc)
#print axioms holds
end Go.Proofs.Ytpndlggahdefcaa.TraceLooks
