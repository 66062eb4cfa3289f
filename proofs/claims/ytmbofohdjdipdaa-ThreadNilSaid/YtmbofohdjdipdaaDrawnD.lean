/-
  A region that draws its order, in which some operations D write what others load: what is loaded (S) need hold only till one of D has come up; a load may be taken first if all of D wait for it.
-/
import Derived.Test.YtmbofohdjdipdaaDrawn
namespace Go.Proofs.Ytmbofohdjdipdaa
open Go.RowKit

def noD (D : List Nat) (listed : Array Bool) : Bool := D.all fun k => !(listed.getD k true)
section
variable {P : Program} {ops : Array Oper} {Q : Exit → Act → World → Prop} {md : Region.Mode} {S : World → Prop} {D : List Nat}
def wpAnyD (P : Program) (md : Region.Mode) (ops : Array Oper) (Q : Exit → Act → World → Prop) (S : World → Prop) (D : List Nat) : Nat → Array Bool → Act → World → Prop
  | 0, listed, a, w => Region.ready md ops listed = [] ∧ Q .normal a w
  | fuel + 1, listed, a, w =>
    (Region.ready md ops listed = [] → Q .normal a w) ∧
    ∀ i ∈ Region.ready md ops listed, wpOp P ops Q i (fun a' w' => (noD D (listed.setIfInBounds i true) = true → S w') ∧ wpAnyD P md ops Q S D fuel (listed.setIfInBounds i true) a' w') a w
theorem wpAny_of_D : ∀ (fuel : Nat) (listed : Array Bool) (a : Act) (w : World), wpAnyD P md ops Q S D fuel listed a w → wpAny P md ops Q fuel listed a w
  | 0, _, _, _, h => h
  | fuel + 1, _, _, _, h => ⟨h.1, fun i hi => wpOp_mono (fun a' w' h' => wpAny_of_D fuel _ a' w' h'.2) (h.2 i hi)⟩
theorem noD_spec {listed : Array Bool} : noD D listed = true ↔ ∀ k ∈ D, listed.getD k true = false := by simp [noD]
theorem noD_no {listed : Array Bool} {p : Prop} (h : noD D listed = false) : noD D listed = true → p := fun h' => by rw [h] at h'; cases h'
theorem noD_set {listed : Array Bool} {i : Nat} (hi : i ∉ D) : noD D (listed.setIfInBounds i true) = noD D listed := by
  rw [Bool.eq_iff_iff, noD_spec, noD_spec]
  have key : ∀ k ∈ D, (listed.setIfInBounds i true).getD k true = listed.getD k true := fun k hk => getD_set_ne true (fun e : i = k => hi (by rw [e]; exact hk))
  exact ⟨fun h k hk => by rw [← key k hk]; exact h k hk, fun h k hk => by rw [key k hk]; exact h k hk⟩
theorem ready_not {i j : Nat} {listed : Array Bool} (hi : listed.getD i true = false) {o : Oper} (ho : ops[j]? = some o) (hj : j ∈ Region.ready md ops listed) : ∀ e ∈ o.after, Region.binds md e = true → e.on ≠ i := fun e he hb heq => by
  obtain ⟨_, o', ho', hall⟩ := mem_ready.1 hj
  rw [ho] at ho'
  injection ho' with ho'
  subst ho'
  have h1 := hall e he hb
  rw [heq] at h1
  rcases Nat.lt_or_ge i listed.size with h' | h'
  · simp [h'] at hi h1; rw [hi] at h1; cases h1
  · simp [Array.getElem?_eq_none h'] at h1
/-- one operation first, of which either nothing in the world matters (L = false), or for which all of D wait (L = true) -/
theorem wpAnyD_first {i : Nat} {oi : Oper} {v : Value} (T : World → Prop) (hi : ops[i]? = some oi) (hsel : ∀ (j : Nat) (o : Oper) cs b, ops[j]? = some o → o.op ≠ .select cs b)
    (hQ : ∀ c a w, Q (.panic c) (a.put oi.dst v) w → Q (.panic c) a w) (hiD : i ∉ D)
    (hT : (T = fun _ => True) ∨ (T = S ∧ ∀ k ∈ D, ∃ o, ops[k]? = some o ∧ ∃ e ∈ o.after, Region.binds md e = true ∧ e.on = i)) :
    ∀ (fuel : Nat) (listed : Array Bool) (a : Act) (w : World),
      (∀ j oj, ops[j]? = some oj → j ≠ i → listed.getD j true = false → (∀ e ∈ oj.after, Region.binds md e = true → e.on ≠ i) → oi.apart ops oj = true) →
      i ∈ Region.ready md ops listed → YieldsIf P ops T oi v a → T w → (noD D listed = true → S w) → (T = S → noD D listed = true ∨ (T = fun _ => True)) →
      wpAnyD P md ops Q S D fuel (listed.setIfInBounds i true) (a.put oi.dst v) w → wpAnyD P md ops Q S D (fuel + 1) listed a w := by
  intro fuel
  induction fuel with
  | zero =>
    intro listed a w _ hr hy hTw hS _ H
    refine ⟨fun h => (by rw [h] at hr; cases hr), fun j hj => ?_⟩
    by_cases hji : j = i
    · subst hji; exact hy.wpOp hi hTw ⟨by rw [noD_set hiD]; exact hS, H⟩
    · have := ready_mono hj hji
      rw [H.1] at this
      cases this
  | succ fuel ih =>
    intro listed a w hfree hr hy hTw hS hTD H
    refine ⟨fun h => (by rw [h] at hr; cases hr), fun j hj => ?_⟩
    by_cases hji : j = i
    · subst hji; exact hy.wpOp hi hTw ⟨by rw [noD_set hiD]; exact hS, H⟩
    · have h1 := H.2 j (ready_mono hj hji)
      obtain ⟨hjun, oj, hoj, _⟩ := mem_ready.1 hj
      have hiun := (mem_ready.1 hr).1
      have hnot := ready_not hiun hoj hj
      have h2 := wpOp_putIf hoj (hfree j oj hoj hji hjun hnot) (fun cs b => hsel i oi cs b hi) (fun cs b => hsel j oj cs b hoj) hQ hy h1
      have hfree' : ∀ k ok, ops[k]? = some ok → k ≠ i → (listed.setIfInBounds j true).getD k true = false →
          (∀ e ∈ ok.after, Region.binds md e = true → e.on ≠ i) → oi.apart ops ok = true := fun k ok hk hki hun hno => by
        refine hfree k ok hk hki ?_ hno
        by_cases hjk : j = k
        · subst hjk; exact hjun
        · rw [getD_set_ne true hjk] at hun; exact hun
      have hcomm : (listed.setIfInBounds i true).setIfInBounds j true = (listed.setIfInBounds j true).setIfInBounds i true := Array.setIfInBounds_comm _ _ (fun e => hji e.symm)
      have hS' : noD D ((listed.setIfInBounds i true).setIfInBounds j true) = noD D (listed.setIfInBounds j true) := by rw [hcomm, noD_set hiD]
      have hTn : T = S → (T = fun _ => True) ∨ noD D (listed.setIfInBounds j true) = true := fun e => by
        rcases hT with h | ⟨_, hw⟩
        · exact .inl h
        · rcases hTD e with h | h
          · right
            rw [noD_set (fun hjD => by
              obtain ⟨o, ho, e, he, hb, hon⟩ := hw j hjD
              rw [hoj] at ho
              injection ho with ho
              subst ho
              exact hnot e he hb hon)]
            exact h
          · exact .inl h
      refine wpOp_mono (fun a' w' h3 => ?_) h2
      rw [hS', hcomm] at h3
      have hTw' : T w' := by
        rcases hT with h | ⟨h, _⟩
        · rw [h]; trivial
        · rcases hTn h with e | e
          · rw [e]; trivial
          · rw [h]; exact h3.2.1 e
      exact ⟨h3.2.1, ih (listed.setIfInBounds j true) a' w' hfree' (ready_mono hr (Ne.symm hji)) h3.1 hTw' h3.2.1 (fun e => (hTn e).symm) h3.2.2⟩
/-- all of D wait for number i -/
def waitD (md : Region.Mode) (ops : Array Oper) (D : List Nat) (i : Nat) : Bool := D.all fun k => match ops.toList[k]? with | some o => o.after.any fun e => Region.binds md e && e.on == i | none => false
theorem waitD_spec {i : Nat} (h : waitD md ops D i = true) : ∀ k ∈ D, ∃ o, ops[k]? = some o ∧ ∃ e ∈ o.after, Region.binds md e = true ∧ e.on = i := fun k hk => by
  have := List.all_eq_true.1 h k hk
  rw [Array.getElem?_toList] at this
  cases ho : ops[k]? with
  | none => rw [ho] at this; cases this
  | some o =>
    rw [ho] at this
    simp only at this
    obtain ⟨e, he, hb⟩ := Array.any_eq_true'.1 this
    simp only [Bool.and_eq_true, beq_iff_eq] at hb
    exact ⟨o, rfl, e, he, hb.1, hb.2⟩
/-- a load, taken first -/
theorem takeD_load {i : Nat} {oi : Oper} {v : Value} {fuel : Nat} {listed : Array Bool} {a : Act} {w : World} (hi : ops.toList[i]? = some oi)
    (hs : Region.noSelect ops = true) (hf : Region.free md ops listed i = true) (hr : (Region.ready md ops listed).contains i = true) (hiD : D.contains i = false) (hw : waitD md ops D i = true) (hn : noD D listed = true)
    (hQ : ∀ c a w, Q (.panic c) (a.put oi.dst v) w → Q (.panic c) a w) (hwa : Region.wanted oi (yielded ops a.tmps) = true) (hy : ∀ w, S w → (execOp a.eval oi).run P w = .ok (.value v) w) (hS : S w)
    (h : wpAnyD P md ops Q S D fuel (listed.setIfInBounds i true) (a.put oi.dst v) w) : wpAnyD P md ops Q S D (fuel + 1) listed a w := by
  have hi' : ops[i]? = some oi := by rw [← hi, Array.getElem?_toList]
  exact wpAnyD_first S hi' (Region.noSelect_spec hs) hQ (by simpa using hiD) (.inr ⟨rfl, waitD_spec hw⟩) fuel listed a w (Region.free_spec hi' hf) (by simpa using hr) (.inl ⟨hwa, hy⟩) hS (fun _ => hS) (fun _ => .inl hn) h
/-- what yields in whatever world, taken first -/
theorem takeD_pure {i : Nat} {oi : Oper} {v : Value} {fuel : Nat} {listed : Array Bool} {a : Act} {w : World} (hi : ops.toList[i]? = some oi)
    (hs : Region.noSelect ops = true) (hf : Region.free md ops listed i = true) (hr : (Region.ready md ops listed).contains i = true) (hiD : D.contains i = false)
    (hQ : ∀ c a w, Q (.panic c) (a.put oi.dst v) w → Q (.panic c) a w) (hwa : Region.wanted oi (yielded ops a.tmps) = true) (hy : ∀ w, (execOp a.eval oi).run P w = .ok (.value v) w) (hS : noD D listed = true → S w)
    (h : wpAnyD P md ops Q S D fuel (listed.setIfInBounds i true) (a.put oi.dst v) w) : wpAnyD P md ops Q S D (fuel + 1) listed a w := by
  have hi' : ops[i]? = some oi := by rw [← hi, Array.getElem?_toList]
  exact wpAnyD_first (fun _ => True) hi' (Region.noSelect_spec hs) hQ (by simpa using hiD) (.inl rfl) fuel listed a w (Region.free_spec hi' hf) (by simpa using hr) (.inl ⟨hwa, fun w _ => hy w⟩) trivial hS (fun _ => .inr rfl) h
/-- what is not wanted, taken first -/
theorem takeD_skip {i : Nat} {oi : Oper} {fuel : Nat} {listed : Array Bool} {a : Act} {w : World} (hi : ops.toList[i]? = some oi)
    (hs : Region.noSelect ops = true) (hf : Region.free md ops listed i = true) (hr : (Region.ready md ops listed).contains i = true) (hiD : D.contains i = false)
    (hQ : ∀ c a w, Q (.panic c) (a.put oi.dst undef) w → Q (.panic c) a w) (hwa : Region.wanted oi (yielded ops a.tmps) = false) (hS : noD D listed = true → S w)
    (h : wpAnyD P md ops Q S D fuel (listed.setIfInBounds i true) (a.put oi.dst undef) w) : wpAnyD P md ops Q S D (fuel + 1) listed a w := by
  have hi' : ops[i]? = some oi := by rw [← hi, Array.getElem?_toList]
  exact wpAnyD_first (fun _ => True) hi' (Region.noSelect_spec hs) hQ (by simpa using hiD) (.inl rfl) fuel listed a w (Region.free_spec hi' hf) (by simpa using hr) (.inr ⟨hwa, rfl⟩) trivial hS (fun _ => .inr rfl) h
def AllReadyD (P : Program) (md : Region.Mode) (ops : Array Oper) (Q : Exit → Act → World → Prop) (S : World → Prop) (D : List Nat) (fuel : Nat) (listed : Array Bool) (a : Act) (w : World) (rs : List Nat) : Prop :=
  ∀ i ∈ rs, wpOp P ops Q i (fun a' w' => (noD D (listed.setIfInBounds i true) = true → S w') ∧ wpAnyD P md ops Q S D fuel (listed.setIfInBounds i true) a' w') a w
theorem AllReadyD.nil {fuel : Nat} {listed : Array Bool} {a : Act} {w : World} : AllReadyD P md ops Q S D fuel listed a w [] := fun _ h => by cases h
theorem consD {fuel : Nat} {listed : Array Bool} {a : Act} {w : World} {i : Nat} {o : Oper} {rs : List Nat} (ho : ops.toList[i]? = some o)
    (h : ∀ K' : Act → World → Prop, Shut (∀ a w, (noD D (listed.setIfInBounds i true) = true → S w) → wpAnyD P md ops Q S D fuel (listed.setIfInBounds i true) a w → K' a w) → if Region.wanted o (yielded ops a.tmps) = true then Oper.wp P o a w K' Q else K' (a.put o.dst undef) w)
    (hs : AllReadyD P md ops Q S D fuel listed a w rs) : AllReadyD P md ops Q S D fuel listed a w (i :: rs) := fun j hj => by
  rcases List.mem_cons.1 hj with rfl | hj
  · exact wpOp_step (by rw [← ho, Array.getElem?_toList]) (fun K' hK => h K' (fun a w hS hW => hK a w ⟨hS, hW⟩))
  · exact hs j hj
theorem wpAnyD_ready {rs : List Nat} {fuel : Nat} {listed : Array Bool} {a : Act} {w : World} (hr : Region.ready md ops listed = rs) (hne : rs ≠ [])
    (h : AllReadyD P md ops Q S D fuel listed a w rs) : wpAnyD P md ops Q S D (fuel + 1) listed a w := ⟨fun h0 => absurd (hr ▸ h0) hne, hr ▸ h⟩
theorem wpAnyD_done {listed : Array Bool} {a : Act} {w : World} (hr : Region.ready md ops listed = []) (h : Q .normal a w) : ∀ fuel, wpAnyD P md ops Q S D fuel listed a w
  | 0 => ⟨hr, h⟩
  | _ + 1 => ⟨fun _ => h, by rw [hr]; simp⟩
theorem wp_region_D {id : Nat} {a : Act} {w : World} (S : World → Prop) (D : List Nat) (hm : P.follows .mixedOrders = true) (hS : S w.drew)
    (h : S w.drew → wpAnyD P .any ops Q S D ops.size (Array.replicate ops.size false) a w.drew) : (Code.region id ops true).wp P Q a w :=
  wp_region_any hm (wpAny_of_D _ _ _ _ (h hS))
end
end Go.Proofs.Ytmbofohdjdipdaa
