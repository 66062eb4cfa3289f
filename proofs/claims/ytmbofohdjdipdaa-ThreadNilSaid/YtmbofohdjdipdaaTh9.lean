/-
  Contracts of package thread: machines; what they answer.
-/
import Derived.Test.YtmbofohdjdipdaaTh8
namespace Go.Proofs.Ytmbofohdjdipdaa
open Go.RowKit

/-- a thread: its program, and its counts -/
structure Thr where
  x : Pg
  steps : Int
  looks : Int
/-- a thread, and where its program lies -/
structure ThR where
  d : Pif
  fs : List Nat
  t : Thr
def thV (q : ThR) : List Value := [q.d.v, .int .i64 q.t.steps, .int .i64 q.t.looks]
def thVs (qs : List ThR) : List Value := qs.flatMap thV
theorem thVs_cons (q : ThR) (qs : List ThR) : thVs (q :: qs) = thV q ++ thVs qs := List.flatMap_cons
theorem thVs_append (qs ps : List ThR) : thVs (qs ++ ps) = thVs qs ++ thVs ps := List.flatMap_append
theorem thVs_len (qs : List ThR) : (thVs qs).length = qs.length * 3 := by
  induction qs with
  | nil => rfl
  | cons x l ih => rw [thVs_cons, List.length_append, ih]; simp [thV]; omega
theorem thVs_at : ∀ (l : List ThR) (j : Nat) (x : ThR), l[j]? = some x → ∀ q, q < 3 → (thVs l)[j * 3 + q]? = (thV x)[q]?
  | y :: l, 0, x, h, q, hq => by
    simp only [List.getElem?_cons_zero, Option.some.injEq] at h
    subst h
    rw [thVs_cons, List.getElem?_append_left (by simp [thV]; omega)]
    simp
  | y :: l, j + 1, x, h, q, hq => by
    rw [List.getElem?_cons_succ] at h
    have := thVs_at l j x h q hq
    rw [thVs_cons, List.getElem?_append_right (by simp [thV]; omega), ← this]
    congr 1
    simp [thV]
    omega
theorem thVs_set (y : ThR) (q : Nat) (u : Value) (hq : q < 3) : ∀ (l : List ThR) (j : Nat) (x : ThR), l[j]? = some x → (thV x).set q u = thV y → (thVs l).set (j * 3 + q) u = thVs (l.set j y) := by
  intro l
  induction l with
  | nil => intro j x h; cases h
  | cons a l ih =>
    intro j x h hy
    cases j with
    | zero =>
      simp only [List.getElem?_cons_zero, Option.some.injEq] at h
      subst h
      have hl : q < (thV a).length := by simp only [thV, List.length_cons, List.length_nil]; omega
      rw [thVs_cons, List.set_cons_zero, thVs_cons, ← hy, Nat.zero_mul, Nat.zero_add, List.set_append_left _ _ hl]
    | succ j =>
      rw [List.getElem?_cons_succ] at h
      have h1 := ih j x h hy
      have hl : (thV a).length = 3 := rfl
      have he : (j + 1) * 3 + q - (thV a).length = j * 3 + q := by rw [hl]; omega
      rw [thVs_cons, List.set_cons_succ, thVs_cons, ← h1, List.set_append_right _ _ (by rw [hl]; omega), he]
theorem thVs_one (l : List ThR) : ∀ v ∈ thVs l, v.oneCell' = true := by
  intro v hv
  unfold thVs at hv
  rw [List.mem_flatMap] at hv
  obtain ⟨x, _, hv⟩ := hv
  simp only [thV, List.mem_cons, List.not_mem_nil, or_false] at hv
  rcases hv with rfl | rfl | rfl <;> rfl
theorem own_set {w : World} {base n size : Nat} {e : TypeId} {g c : Nat} {xs : List Value} (h : w.ownsRow base e size (.slice (some ⟨g, 0, none⟩) n c) n xs) (i : Nat) (u : Value) :
    (w.setCell ⟨g, i, none⟩ u).ownsRow base e size (.slice (some ⟨g, 0, none⟩) n c) n (xs.set i u) := by
  obtain ⟨h0, h⟩ := h
  refine ⟨by simpa using h0, ?_⟩
  rcases h with ⟨h1, _⟩ | ⟨g', cap, cur, hv, hg, hc, h1, h2, h3, h4⟩
  · cases h1
  · injection hv with hv1 hv2 hv3
    injection hv1 with hv1
    injection hv1 with hv1
    subst hv1 hv3
    refine .inr ⟨g, c, cur.setIfInBounds i u, rfl, hg, ?_, h1, h2, by simpa using h3, ?_⟩
    · simp [World.setCell, Array.getElem?_modify, hc]
    · rw [← h4]
      simp only [Array.toList_setIfInBounds]
      rw [List.take_set]
/-- where a machine lies -/
structure MaR where
  r : Nat
  b : Nat
  g : Nat
  c : Nat
  lv : Value
  qs : List ThR
def MaR.foot (M : MaR) (k : Nat) : Prop := k = M.r ∨ k = M.b ∨ k = M.g ∨ M.lv.ownBlock = some k ∨ ∃ q ∈ M.qs, k ∈ q.fs
structure MaAt (w : World) (M : MaR) (ws : List Int) : Prop where
  hd : Blk w M.r 91 [.pointer (some ⟨M.b, 0, none⟩), M.lv]
  mem : MemAt w M.b M.g M.c ws
  own : w.ownsRow 0 132 3 M.lv M.qs.length (thVs M.qs)
  pr : ∀ q ∈ M.qs, ProgAt w q.d q.fs q.t.x
  dj : M.qs.Pairwise (fun p q => ∀ k ∈ p.fs, k ∉ q.fs)
  n64 : M.qs.length ≤ 64
theorem own_tyT {w : World} {base n size k : Nat} {e : TypeId} {v : Value} {xs : List Value} (h : w.ownsRow base e size v n xs) (hk : v.ownBlock = some k) : ∃ cs, Blk w k e cs := own_ty h hk
section
variable {w w' : World} {M : MaR} {ws : List Int}
theorem MaAt.ty (h : MaAt w M ws) : ∀ k, M.foot k → ∃ t cs, Blk w k t cs ∧ ¬ fixTy t := fun k hk => by
  rcases hk with rfl | rfl | rfl | hk | ⟨q, hq, hk⟩
  · exact ⟨_, _, h.hd, by unfold fixTy; decide⟩
  · exact ⟨_, _, h.mem.hd, by unfold fixTy; decide⟩
  · obtain ⟨sp, hr⟩ := h.mem.row
    exact ⟨_, _, hr, by unfold fixTy; decide⟩
  · obtain ⟨cs, hb⟩ := own_ty h.own hk
    exact ⟨_, _, hb, by unfold fixTy; decide⟩
  · exact (h.pr q hq).mut k hk ((h.pr q hq).lt k hk)
theorem MaAt.mut (h : MaAt w M ws) : Mut w M.foot := fun k hk _ => h.ty k hk
theorem MaAt.lt (h : MaAt w M ws) : ∀ k, M.foot k → k < w.heap.size := fun k hk => by
  obtain ⟨_, _, hb, _⟩ := h.ty k hk
  exact hb.lt
theorem MaAt.keep {F : Nat → Prop} (h : MaAt w M ws) (hc : Ch F w w') (hF : Mut w F) (hf : ∀ k, M.foot k → ¬ F k) : MaAt w' M ws :=
  ⟨h.hd.keep hc (hf _ (.inl rfl)), h.mem.keep hc (hf _ (.inr (.inl rfl))) (hf _ (.inr (.inr (.inl rfl)))), own_keep h.own hc (fun b hb _ => hf b (.inr (.inr (.inr (.inl hb))))),
    fun q hq => (h.pr q hq).keep hc hF (fun k hk => hf k (.inr (.inr (.inr (.inr ⟨q, hq, hk⟩))))), h.dj, h.n64⟩
theorem MaAt.below (h : MaAt w M ws) (hb : Below w.heap.size w w') : MaAt w' M ws := h.keep (Ch.of_below hb (fun _ => False)) (Mut.no w) (fun _ _ e => e)
theorem MaAt.c0 (h : MaAt w M ws) : w.cell? ⟨M.r, 0, none⟩ = some (.pointer (some ⟨M.b, 0, none⟩)) := h.hd.cell 0
theorem MaAt.c1 (h : MaAt w M ws) : w.cell? ⟨M.r, 1, none⟩ = some M.lv := h.hd.cell 1
/-- the list of threads, and a thread of it -/
theorem MaAt.at (h : MaAt w M ws) {j : Nat} {q : ThR} (hq : M.qs[j]? = some q) : ∃ lb c, M.lv = .slice (some ⟨lb, 0, none⟩) M.qs.length c ∧ M.qs.length ≤ c ∧ c ≤ 9223372036854775807 ∧ (∃ sp, Blk w lb 132 (thVs M.qs ++ sp)) ∧
    w.cell? ⟨lb, j * 3, none⟩ = some q.d.v ∧ w.cell? ⟨lb, j * 3 + 1, none⟩ = some (.int .i64 q.t.steps) ∧ w.cell? ⟨lb, j * 3 + 2, none⟩ = some (.int .i64 q.t.looks) := by
  have hj : j < M.qs.length := (List.getElem?_eq_some_iff.1 hq).1
  obtain ⟨g, c, sp, e, _, h2, h3, h4⟩ := own_gen h.own (by omega)
  have key : ∀ p, p < 3 → w.cell? ⟨g, j * 3 + p, none⟩ = (thV q)[p]? := fun p hp => by
    rw [h4.cell, List.getElem?_append_left (by rw [thVs_len]; omega)]
    exact thVs_at M.qs j q hq p hp
  exact ⟨g, c, e, h2, h3, ⟨sp, h4⟩, key 0 (by omega), key 1 (by omega), key 2 (by omega)⟩
theorem MaAt.lv (h : MaAt w M ws) : ∃ A c, M.lv = .slice A M.qs.length c := by
  obtain ⟨A, c, e, _⟩ := own_slice h.own
  exact ⟨A, c, e⟩
end
theorem mazero_ok (M : MaR) (ws : List Int) (w : World) (h : MaAt w M ws) :
    Calls Try.prog 60 #[.pointer (some ⟨M.r, 0, none⟩)] w fun e w' => e = .returned (.bool false) ∧ w = w' := by
  have c0 := h.c0
  go_enter Try.func60, Try.ntmps60
  go_wp2
  go_ret
  exact ⟨rfl, rfl⟩
def noneB (n : Nat) (t : Int) : Bool := decide (t < 0) || decide ((n : Int) ≤ t)
theorem manone_ok (M : MaR) (ws : List Int) (t : Int) (w : World) (h : MaAt w M ws) :
    Calls Try.prog 61 #[.pointer (some ⟨M.r, 0, none⟩), .int .i64 t] w fun e w' => e = .returned (.bool (noneB M.qs.length t)) ∧ w = w' := by
  have c1 := h.c1
  obtain ⟨A, c, hl⟩ := h.lv
  rw [hl] at c1
  generalize M.qs.length = n at *
  have hz := mazero_ok M ws w h
  unfold noneB
  cases h1 : decide (t < 0) <;> cases h2 : decide ((n : Int) ≤ t)
  all_goals
    have d1 := h1
    have d2 := h2
    clear h1 h2
    go_enter Try.func61, Try.ntmps61
    go_wp2_with (go_at_call 60; refine hz.mono ?_; rintro e w1 ⟨rfl, rfl⟩)
    go_ret
    exact ⟨rfl, rfl⟩
theorem mathreads_ok (M : MaR) (ws : List Int) (w : World) (h : MaAt w M ws) :
    Calls Try.prog 38 #[.pointer (some ⟨M.r, 0, none⟩)] w fun e w' => e = .returned (.int .i64 M.qs.length) ∧ w = w' := by
  have c1 := h.c1
  obtain ⟨A, c, hl⟩ := h.lv
  rw [hl] at c1
  have hz := mazero_ok M ws w h
  generalize M.qs.length = n at *
  go_enter Try.func38, Try.ntmps38
  go_wp2_with (go_at_call 60; refine hz.mono ?_; rintro e w1 ⟨rfl, rfl⟩)
  go_ret
  exact ⟨rfl, rfl⟩
theorem noneB_in {n : Nat} {j : Nat} (h : j < n) : noneB n j = false := by
  unfold noneB
  rw [decide_eq_false (by omega), decide_eq_false (by omega)]
  rfl
theorem noneB_out {n : Nat} {t : Int} (h : t < 0 ∨ (n : Int) ≤ t) : noneB n t = true := by
  unfold noneB
  rcases h with h | h
  · rw [decide_eq_true h]; rfl
  · rw [decide_eq_true h]; simp
end Go.Proofs.Ytmbofohdjdipdaa
