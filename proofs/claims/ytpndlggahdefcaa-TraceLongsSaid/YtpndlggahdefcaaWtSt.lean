/-
  What stands while waits are gathered: the map of the open ones, the row of those that are over.
-/
import Derived.Test.YtpndlggahdefcaaWtSort
import Derived.Test.YtpndlggahdefcaaTr6
namespace Go.Proofs.Ytpndlggahdefcaa
open Go.RowKit Go.Maps

theorem grown_of_ch {F : Nat → Prop} {w w' : World} {row : Option Nat} (h : Ch F w w') (hf : ∀ j, F j → row = some j) : w.grownBy w' row :=
  ⟨h.os, h.tape, h.output, h.size, fun j hj hne => h.block j hj (fun e => hne (hf j e).symm)⟩
theorem grown_of_below {w w' : World} (h : Below w.heap.size w w') (row : Option Nat) : w.grownBy w' row := ⟨h.os, h.tape, h.output, h.size, fun j hj _ => h.block j hj⟩
theorem ch_of_turned {w w' : World} {b : Nat} (h : w.mapTurned w' b) : Ch (fun j => j = b) w w' := by
  have g := h.grown
  exact ⟨g.os, g.tape, g.output, g.size, fun j hj hne => g.block j hj (fun e => hne (by injection e))⟩
theorem ch_of_grown {w w' : World} {b : Nat} (g : w.grownBy w' (some b)) : Ch (fun j => j = b) w w' := ⟨g.os, g.tape, g.output, g.size, fun j hj hne => g.block j hj (fun e => hne (by injection e))⟩
/-- out: the waits that are over; f: those that are open -/
structure WSt (W0 : World) (M n : Nat) (v5 : Value) (out : List Wt) (f : Opn) (wr : World) : Prop where
  map : ∃ D, wr.ownsMap Try.prog 3 wtElem M n D ∧ OpAt D f
  row : wr.ownsRow (M + 1) 60 5 v5 out.length (wts out)
  below : Below W0.heap.size W0 wr
  lo : W0.heap.size ≤ M
theorem WSt.next {W0 : World} {M n : Nat} {v5 : Value} {out : List Wt} {f : Opn} {wr w' : World} (h : WSt W0 M n v5 out f wr) (hb : Below wr.heap.size wr w') : WSt W0 M n v5 out f w' := by
  obtain ⟨D, h1, h2⟩ := h.map
  exact ⟨⟨D, h1.kept (grown_of_below hb none) (by simp), h2⟩, own_keep h.row (Ch.of_below hb (fun _ => False)) (fun _ _ _ e => e), h.below.trans (hb.mono h.below.size), h.lo⟩
theorem WSt.lt {W0 : World} {M n : Nat} {v5 : Value} {out : List Wt} {f : Opn} {wr : World} (h : WSt W0 M n v5 out f wr) : M < wr.heap.size := by
  obtain ⟨D, h1, _⟩ := h.map
  exact h1.lt
/-- the map alone has turned -/
theorem WSt.turn {W0 : World} {M n n' : Nat} {v5 : Value} {out : List Wt} {f g : Opn} {wr w' : World} (h : WSt W0 M n v5 out f wr) (hc : Ch (fun j => j = M) wr w') (hm : ∃ D, w'.ownsMap Try.prog 3 wtElem M n' D ∧ OpAt D g) : WSt W0 M n' v5 out g w' :=
  ⟨hm, own_keep h.row hc (fun b _ hb e => by omega), h.below.trans (hc.below (fun j _ e => by have := h.lo; omega) h.below.size), h.lo⟩
/-- the row alone has turned -/
theorem WSt.app {W0 : World} {M n : Nat} {v5 v5' : Value} {out out' : List Wt} {f : Opn} {wr w' : World} (h : WSt W0 M n v5 out f wr) (hc : Ch (fun j => v5.ownBlock = some j) wr w') (hr : w'.ownsRow (M + 1) 60 5 v5' out'.length (wts out')) : WSt W0 M n v5' out' f w' := by
  obtain ⟨D, h1, h2⟩ := h.map
  have hM : v5.ownBlock ≠ some M := fun e => by
    have := ownBlock_ge h.row e
    omega
  exact ⟨⟨D, h1.kept (grown_of_ch hc (fun j e => e)) (fun e => hM e.symm), h2⟩, hr, h.below.trans (hc.below (fun j _ e => by have := ownBlock_ge h.row e; have := h.lo; omega) h.below.size), h.lo⟩
theorem wsOut_len (d : Dd) (f : Opn) : (wsOut d f).length ≤ 1 := by
  unfold wsOut
  split
  · split <;> simp
  · simp
theorem wsRun_len (l : List Dd) : ∀ k, (wsRun l k).1.length ≤ k
  | 0 => Nat.le_refl _
  | k + 1 => by
    have ih := wsRun_len l k
    show (match l[k]? with | some d => ((wsRun l k).1 ++ wsOut d (wsRun l k).2, wsF k d (wsRun l k).2) | none => wsRun l k).1.length ≤ _
    split
    · rename_i d _
      have := wsOut_len d (wsRun l k).2
      simp only [List.length_append]
      omega
    · omega
/-- the thread's own, closed if it is over -/
def wsCl (d : Dd) (f : Opn) : Opn := fun t => if t = d.t then (match f d.t with | some x => if atB d = x.w then some x else none | none => none) else f t
theorem wf_right {l : List Dd} (h : wrongF l = 0) : ∀ d ∈ l, rightB d = true := by
  have hv : validB l = true := by
    unfold wrongF at h
    split at h
    · cases h
    · split at h
      · assumption
      · cases h
  have hg : goodB l l.length = true := by
    unfold validB at hv
    rw [Bool.and_eq_true] at hv
    exact hv.1
  intro d hd
  obtain ⟨k, hk⟩ := List.mem_iff_getElem?.1 hd
  have h1 := goodB_mono l (k + 1) l.length (by have := (List.getElem?_eq_some_iff.1 hk).1; omega) hg
  rw [goodB_succ l k hk] at h1
  simp only [Bool.and_eq_true] at h1
  exact h1.2.1
theorem wrong_len {l : List Dd} (h : wrongF l = 0) : l.length ≤ 100000 := by
  unfold wrongF at h
  split at h
  · cases h
  · omega
/-- what becomes of the thread's own, by the program's tests -/
theorem ws_cases (k : Nat) (d : Dd) (f : Opn) (hr : rightB d = true) (hw : ∀ x, f d.t = some x → 0 ≤ x.w) (WT is CL : Bool) (Y : Wt) (h1 : WT = (d.wt && (d.k == 1))) (h2 : (f d.t).getD ⟨0, 0, 0, 0, 0⟩ = Y) (h3 : (f d.t).isSome = is) (h4 : CL = (is && !(WT && (Y.w == d.w)))) :
    wsOut d f = (if CL = true then [Y] else []) ∧ (∀ u, wsCl d f u = if CL = true then (if u = d.t then none else f u) else f u) ∧
    (∀ u, wsMid k d f u = if (WT && !(is && !CL)) = true then (if u = d.t then some ⟨d.t, d.w, k, -1, -1⟩ else wsCl d f u) else wsCl d f u) := by
  have hat : (WT = true ∧ atB d = d.w ∧ 0 ≤ d.w) ∨ (WT = false ∧ atB d = -1) := by
    rcases atB_right hr with h | ⟨a, b, c, e⟩
    · by_cases q : d.wt = true ∧ d.k = 1
      · have := rightB_iff.1 hr
        unfold atB at h
        rw [if_pos q] at h
        omega
      · refine .inr ⟨?_, h⟩
        rw [h1]
        rw [Bool.and_eq_false_iff, beq_eq_false_iff_ne]
        by_cases q2 : d.wt = true
        · exact .inr (fun q3 => q ⟨q2, q3⟩)
        · exact .inl (by simpa using q2)
    · exact .inl ⟨by rw [h1, a, b]; rfl, c, e⟩
  subst h4
  clear h1
  unfold wsOut wsCl wsMid wsNew
  cases hf : f d.t with
  | none =>
    rw [hf] at h3
    obtain rfl : false = is := h3
    rcases hat with ⟨rfl, e1, e2⟩ | ⟨rfl, e1⟩
    · refine ⟨by simp, fun u => ?_, fun u => ?_⟩
      · by_cases q : u = d.t
        · subst q; simp [hf]
        · simp [q]
      · by_cases q : u = d.t
        · subst q; simp [e1]; omega
        · simp [q]
    · refine ⟨by simp, fun u => ?_, fun u => ?_⟩
      · by_cases q : u = d.t
        · subst q; simp [hf]
        · simp [q]
      · by_cases q : u = d.t
        · subst q; simp [e1]
        · simp [q]
  | some x =>
    rw [hf] at h3 h2
    obtain rfl : true = is := h3
    obtain rfl : x = Y := h2
    have hx := hw x hf
    rcases hat with ⟨rfl, e1, e2⟩ | ⟨rfl, e1⟩
    · by_cases q2 : x.w = d.w
      · have q3 : (x.w == d.w) = true := by rw [beq_iff_eq]; exact q2
        refine ⟨by simp [e1, q2], fun u => ?_, fun u => ?_⟩
        · by_cases q : u = d.t
          · subst q; simp [hf, e1, q2]
          · simp [q]
        · by_cases q : u = d.t
          · subst q; simp [e1, q2]; omega
          · simp [q]
      · have q3 : (x.w == d.w) = false := by rw [beq_eq_false_iff_ne]; exact q2
        have q4 : ¬ d.w = x.w := fun e => q2 e.symm
        refine ⟨by simp [e1, q3, q4], fun u => ?_, fun u => ?_⟩
        · by_cases q : u = d.t
          · subst q; simp [e1, q3, q4]
          · simp [q]
        · by_cases q : u = d.t
          · subst q; simp [e1, q3, q4]; omega
          · simp [q]
    · have q4 : ¬ (-1 : Int) = x.w := by omega
      refine ⟨by simp [e1, q4], fun u => ?_, fun u => ?_⟩
      · by_cases q : u = d.t
        · subst q; simp [e1, q4]
        · simp [q]
      · by_cases q : u = d.t
        · subst q; simp [e1, q4]
        · simp [q]
theorem own_blk_ne {w : World} {base n g : Nat} {e T : TypeId} {size : Nat} {v : Value} {xs cs : List Value} (h : w.ownsRow base e size v n xs) (hb : Blk w g T cs) (hne : e ≠ T) : ¬ v.ownBlock = some g := by
  intro hg
  rcases h.2 with ⟨rfl, _⟩ | ⟨g', cap, cur, rfl, _, hg', _⟩
  · simp [Value.ownBlock] at hg
  · simp [Value.ownBlock] at hg
    subst hg
    unfold Blk at hb
    rw [hg'] at hb
    injection hb with hb
    injection hb with _ hb _
    exact hne hb
theorem wl_next {P : Program} (w : World) {ops : Array Oper} {rest : List Oper} {o : Oper} {a : Act} {Q : Exit → Act → World → Prop}
    (hg : o.guard = none) (it : Operand) (hop : o.op = Op.next it false) (k : TypeId) (K : Keyed P k) (hk : P.underlying k = some (.int .i64))
    (b r n : Nat) (D : DataW Unit) (f : Opn) (left : Lit → Bool) (cnt : Nat) (hit : a.eval it = .pointer (some ⟨r, 0, none⟩)) (h : w.ranges P k wtElem b r n D left cnt) (hf : OpAt D f)
    (hDone : (∀ kl, left kl = false) → wpList P ops Q rest (a.put o.dst (.tuple #[.bool false])) w)
    (hMore : ∀ (t x1 x2 x3 x4 x5 : Int) (w' : World) (cnt' : Nat), (Lit.int .i64 t).wf = true → left (.int .i64 t) = true → f t = some ⟨x1, x2, x3, x4, x5⟩ → w'.ranges P k wtElem b r n D (fun z => left z && !z.sameKey (.int .i64 t)) cnt' → cnt' < cnt →
      w.grownBy w' (some r) → w'.heap.size = w.heap.size → (Instr.entry (.pointer (some ⟨r, 0, none⟩))).run P w' = .ok (.tuple #[.int .i64 t, .agg #[.int .i64 x1, .int .i64 x2, .int .i64 x3, .int .i64 x4, .int .i64 x5]]) w' →
      wpList P ops Q rest (a.put o.dst (.tuple #[.bool true, .int .i64 t, .agg #[.int .i64 x1, .int .i64 x2, .int .i64 x3, .int .i64 x4, .int .i64 x5]])) w') :
    wpList P ops Q (o :: rest) a w :=
  wpList_next_wt w hg it hop k K hk b r n D f left cnt hit h hf hDone (fun t x w' cnt' h1 h2 h3 h4 h5 h6 h7 h8 => by
    obtain ⟨x1, x2, x3, x4, x5⟩ := x
    exact hMore t x1 x2 x3 x4 x5 w' cnt' h1 h2 h3 h4 h5 h6 h7 h8)
/-- a range over the map under way -/
structure W2 (W0 : World) (M n R : Nat) (v5 : Value) (out : List Wt) (DB : Nat) (cs : List Value) (D : DataW Unit) (left : Lit → Bool) (cnt : Nat) (wr : World) : Prop where
  rg : wr.ranges Try.prog 3 wtElem M R n D left cnt
  row : wr.ownsRow (M + 1) 60 5 v5 out.length (wts out)
  below : Below W0.heap.size W0 wr
  lo : W0.heap.size ≤ M
  lor : W0.heap.size ≤ R
  did : cs ≠ [] → Blk wr DB 47 cs
theorem W2.next {W0 : World} {M n R DB cnt : Nat} {v5 : Value} {out : List Wt} {cs : List Value} {D : DataW Unit} {left : Lit → Bool} {wr w' : World} (h : W2 W0 M n R v5 out DB cs D left cnt wr) (hb : Below wr.heap.size wr w') : W2 W0 M n R v5 out DB cs D left cnt w' :=
  ⟨h.rg.kept (grown_of_below hb none) (by simp) (by simp), own_keep h.row (Ch.of_below hb (fun _ => False)) (fun _ _ _ e => e), h.below.trans (hb.mono h.below.size), h.lo, h.lor, fun q => (h.did q).keep (Ch.of_below hb (fun _ => False)) (fun e => e)⟩
theorem ranges_objs {H : Type} {P : Program} {k : TypeId} {RR : Value → Option (DataW H × List MemPlace)} {w : World} {b r n : Nat} {D : DataW H} {left : Lit → Bool} {cnt : Nat} (h : w.ranges P k RR b r n D left cnt) :
    (∃ es c, w.heap[b]? = some (.map es c)) ∧ ∃ m s seen c, w.heap[r]? = some (.mapIter m s seen c) := by
  obtain ⟨es, clock, since, seen, c0, hb, _, _, _, hr, _⟩ := h
  exact ⟨⟨_, _, hb⟩, ⟨_, _, _, _, hr⟩⟩
theorem W2.turn {W0 : World} {M n R DB cnt cnt' : Nat} {v5 : Value} {out : List Wt} {cs : List Value} {D D' : DataW Unit} {left left' : Lit → Bool} {wr w' : World} (h : W2 W0 M n R v5 out DB cs D left cnt wr) (hc : Ch (fun j => j = M ∨ j = R) wr w')
    (hr : w'.ranges Try.prog 3 wtElem M R n D' left' cnt') : W2 W0 M n R v5 out DB cs D' left' cnt' w' := by
  obtain ⟨⟨es, c, hb⟩, m, s, seen, c', hit⟩ := ranges_objs h.rg
  refine ⟨hr, own_keep h.row hc (fun b hbk hb e => ?_), h.below.trans (hc.below (fun j _ e => ?_) h.below.size), h.lo, h.lor, fun q => (h.did q).keep hc (fun e => ?_)⟩
  · rcases e with e | e
    · omega
    · subst e
      rcases h.row.2 with ⟨e1, _⟩ | ⟨g', cap, cur, e1, _, hg', _⟩
      · rw [e1] at hbk; simp [Value.ownBlock] at hbk
      · rw [e1] at hbk
        simp [Value.ownBlock] at hbk
        subst hbk
        rw [hit] at hg'
        cases hg'
  · have := h.lo
    have := h.lor
    rcases e with e | e <;> omega
  · have h3 := h.did q
    unfold Blk at h3
    rcases e with rfl | rfl
    · rw [hb] at h3; cases h3
    · rw [hit] at h3; cases h3
/-- the row alone has turned -/
theorem W2.app {W0 : World} {M n R DB cnt : Nat} {v5 v5' : Value} {out out' : List Wt} {cs : List Value} {D : DataW Unit} {left : Lit → Bool} {wr w' : World} (h : W2 W0 M n R v5 out DB cs D left cnt wr) (hc : Ch (fun j => v5.ownBlock = some j) wr w')
    (hr : w'.ownsRow (M + 1) 60 5 v5' out'.length (wts out')) : W2 W0 M n R v5' out' DB cs D left cnt w' := by
  obtain ⟨⟨es, c, hb⟩, m, s, seen, c', hit⟩ := ranges_objs h.rg
  have hnb : ∀ j, v5.ownBlock = some j → ∃ cur T fz, wr.heap[j]? = some (.cells cur T fz) := fun j e => by
    rcases h.row.2 with ⟨e1, _⟩ | ⟨g', cap, cur, e1, _, hg', _⟩
    · rw [e1] at e; simp [Value.ownBlock] at e
    · rw [e1] at e
      simp [Value.ownBlock] at e
      subst e
      exact ⟨_, _, _, hg'⟩
  refine ⟨h.rg.kept (grown_of_ch hc (fun j e => e)) (fun e => ?_) (fun e => ?_), hr, h.below.trans (hc.below (fun j _ e => by have := ownBlock_ge h.row e; have := h.lo; omega) h.below.size), h.lo, h.lor, fun q => (h.did q).keep hc (own_blk_ne h.row (h.did q) (by decide))⟩
  · obtain ⟨cur, T, fz, q⟩ := hnb M e.symm
    rw [hb] at q; cases q
  · obtain ⟨cur, T, fz, q⟩ := hnb R e.symm
    rw [hit] at q; cases q
theorem W2.lts {W0 : World} {M n R DB cnt : Nat} {v5 : Value} {out : List Wt} {cs : List Value} {D : DataW Unit} {left : Lit → Bool} {wr : World} (h : W2 W0 M n R v5 out DB cs D left cnt wr) :
    M < wr.heap.size ∧ R < wr.heap.size ∧ (cs ≠ [] → DB < wr.heap.size) ∧ (∀ j, v5.ownBlock = some j → j < wr.heap.size) ∧ W0.heap.size ≤ wr.heap.size :=
  ⟨h.rg.owns.lt, h.rg.lt, fun q => (h.did q).lt, fun j hj => (h.row.lt j hj).2, h.below.size⟩
theorem W2.fresh {W0 : World} {M n R DB cnt X : Nat} {v5 : Value} {out : List Wt} {cs : List Value} {D : DataW Unit} {left : Lit → Bool} {wr w' : World} (h : W2 W0 M n R v5 out DB cs D left cnt wr) (hc : Ch (fun j => j = X) wr w')
    (hX : M < X ∧ R < X ∧ (cs ≠ [] → DB < X) ∧ (∀ j, v5.ownBlock = some j → j < X) ∧ W0.heap.size ≤ X) : W2 W0 M n R v5 out DB cs D left cnt w' := by
  obtain ⟨h1, h2, h3, h4, h5⟩ := hX
  have hg : wr.grownBy w' (some X) := grown_of_ch hc (fun j e => by rw [e])
  exact ⟨h.rg.kept hg (fun e => by injection e with e; omega) (fun e => by injection e with e; omega), own_keep h.row hc (fun b hb _ e => by have := h4 b hb; omega), h.below.trans (hc.below (fun j _ e => by omega) h.below.size), h.lo, h.lor,
    fun q => (h.did q).keep hc (fun e => by have := h3 q; omega)⟩
/-- the open waits while those that are left have not yet been looked at -/
def wsG (k : Nat) (d : Dd) (f : Opn) (left : Lit → Bool) : Opn := fun u => if u = d.t then f u else if left (.int .i64 u) = true then f u else (f u).map (upW k d)
theorem strike_eq (left : Lit → Bool) (t u : Int) : (left (.int .i64 u) && !(Lit.int .i64 u).sameKey (.int .i64 t)) = if u = t then false else left (.int .i64 u) := by
  by_cases e : u = t
  · subst e
    rw [if_pos rfl, WideAt.sameKey_self (show WideAt.IsKeyLit (.int .i64 u) from trivial)]
    simp
  · rw [if_neg e, Maps.sameKey_ne (show (Lit.int .i64 u) ≠ .int .i64 t from fun q => e (by injection q))]
    simp
theorem wsG_end (k : Nat) (d : Dd) (f : Opn) (left : Lit → Bool) (h : ∀ kl, left kl = false) (u : Int) : wsG k d (wsMid k d f) left u = wsF k d f u := by
  unfold wsG wsF wsMid
  by_cases e : u = d.t
  · simp [e]
  · simp [e, h]
theorem wsG_same (k : Nat) (d : Dd) (f : Opn) (left : Lit → Bool) (t : Int) (x : Wt) (hl : left (.int .i64 t) = true) (hx : wsG k d f left t = some x) (h : t = d.t ∨ chB d x.w = false) (u : Int) :
    wsG k d f left u = wsG k d f (fun z => left z && !z.sameKey (.int .i64 t)) u := by
  unfold wsG at *
  simp only [strike_eq]
  by_cases e : u = d.t
  · simp [e]
  · by_cases e2 : u = t
    · subst e2
      rcases h with h | h
      · exact absurd h e
      · rw [if_neg e, if_pos hl] at hx
        rw [if_neg e, if_neg e, if_pos hl, if_pos rfl, hx]
        show some x = some (upW k d x)
        unfold upW
        rw [h]
        rfl
    · rw [if_neg e2]
theorem wsG_turn (k : Nat) (d : Dd) (f : Opn) (left : Lit → Bool) (t : Int) (x : Wt) (hl : left (.int .i64 t) = true) (hx : wsG k d f left t = some x) (h1 : t ≠ d.t) (h2 : chB d x.w = true) :
    wsG k d f (fun z => left z && !z.sameKey (.int .i64 t)) = fun u => if u = t then some ⟨x.t, x.w, x.f, k, d.t⟩ else wsG k d f left u := by
  funext u
  unfold wsG at *
  simp only [strike_eq]
  by_cases e2 : u = t
  · subst e2
    rw [if_neg h1, if_pos hl] at hx
    rw [if_pos rfl, if_neg h1, if_pos rfl, hx]
    show some (upW k d x) = _
    unfold upW
    rw [h2]
    rfl
  · rw [if_neg e2, if_neg e2]
theorem wi_disj {l : List Dd} {k : Nat} {s : List Wt × Opn} (h : WI l k s) {t : Int} {x : Wt} (h1 : x ∈ s.1) (h2 : s.2 t = some x) : False := by
  obtain ⟨i, d, _, a1, _, a2⟩ := h.c2 x h1
  obtain ⟨i', d', _, b1, _, _, b2⟩ := h.c1 t x h2
  have f1 := (itR_keep l d.t (atB d) i (k - 1 - i)).2.2
  have f2 := (itR_keep l d'.t (atB d') i' (k - 1 - i')).2.2
  rw [a2] at f1
  rw [b2] at f2
  simp only at f1 f2
  have : i = i' := by omega
  subst this
  rw [a1] at b1
  injection b1 with b1
  subst b1
  rw [a2] at b2
  cases b2
theorem wi_bound {l : List Dd} {k : Nat} {s : List Wt × Opn} (h : WI l k s) {x : Wt} (h1 : x ∈ s.1 ∨ ∃ t, s.2 t = some x) : 0 ≤ x.f ∧ x.f < k := by
  rcases h1 with h1 | ⟨t, h1⟩
  · obtain ⟨i, d, a0, a1, _, a2⟩ := h.c2 x h1
    have f1 := (itR_keep l d.t (atB d) i (k - 1 - i)).2.2
    rw [a2] at f1
    simp only at f1
    omega
  · obtain ⟨i, d, a0, b1, _, _, a2⟩ := h.c1 t x h1
    have f1 := (itR_keep l d.t (atB d) i (k - 1 - i)).2.2
    rw [a2] at f1
    simp only at f1
    omega
/-- those that have been taken out of the map, in whatever order -/
def FinV (f : Opn) (left : Lit → Bool) (vals : List Wt) : Prop := vals.Nodup ∧ ∀ x, x ∈ vals ↔ ∃ t, f t = some x ∧ left (.int .i64 t) = false
theorem finv_start {D : DataW Unit} {f : Opn} (h : OpAt D f) : FinV f (Maps.has D) [] :=
  ⟨List.nodup_nil, fun x => ⟨fun q => (by cases q), fun ⟨t, h1, h2⟩ => (by rw [h.has, h1] at h2; cases h2)⟩⟩
theorem finv_step {l : List Dd} {k : Nat} {s : List Wt × Opn} (hI : WI l k s) {left : Lit → Bool} {vals : List Wt} {t : Int} {x : Wt} (h : FinV s.2 left vals) (hl : left (.int .i64 t) = true) (hx : s.2 t = some x) :
    FinV s.2 (fun z => left z && !z.sameKey (.int .i64 t)) (vals ++ [x]) := by
  obtain ⟨h1, h2⟩ := h
  have hself := (hI.a t x hx).1
  refine ⟨?_, fun z => ?_⟩
  · rw [List.nodup_append]
    refine ⟨h1, by simp, fun a ha b hb => ?_⟩
    obtain rfl := List.mem_singleton.1 hb
    rintro rfl
    obtain ⟨t', q1, q2⟩ := (h2 a).1 ha
    have := (hI.a t' a q1).1
    have e : t' = t := by omega
    subst e
    rw [hl] at q2
    cases q2
  · rw [List.mem_append, List.mem_singleton, h2]
    constructor
    · rintro (⟨t', q1, q2⟩ | rfl)
      · exact ⟨t', q1, by simp only [strike_eq]; split <;> simp_all⟩
      · exact ⟨t, hx, by simp only [strike_eq]; simp⟩
    · rintro ⟨t', q1, q2⟩
      simp only [strike_eq] at q2
      by_cases e : t' = t
      · subst e
        rw [hx] at q1
        injection q1 with q1
        exact .inr q1.symm
      · rw [if_neg e] at q2
        exact .inl ⟨t', q1, q2⟩
theorem fin_all (l : List Dd) (hr : ∀ d ∈ l, rightB d = true) {left : Lit → Bool} {vals : List Wt} (h : FinV (wsRun l l.length).2 left vals) (hl : ∀ kl, left kl = false) :
    (∀ x ∈ (wsRun l l.length).1 ++ vals, 0 ≤ x.f ∧ x.f ≤ l.length) ∧ ∀ r : List Wt, r.Perm ((wsRun l l.length).1 ++ vals) → r.Pairwise (fun x y => x.f ≤ y.f) → r = refW l l.length := by
  have hI := wi_all l hr l.length (Nat.le_refl _)
  have hm : ∀ x, x ∈ (wsRun l l.length).1 ++ vals ↔ x ∈ (wsRun l l.length).1 ∨ ∃ t, (wsRun l l.length).2 t = some x := fun x => by
    rw [List.mem_append, h.2]
    constructor
    · rintro (q | ⟨t, q, _⟩)
      · exact .inl q
      · exact .inr ⟨t, q⟩
    · rintro (q | ⟨t, q⟩)
      · exact .inl q
      · exact .inr ⟨t, q, hl _⟩
  have hn : ((wsRun l l.length).1 ++ vals).Nodup := by
    rw [List.nodup_append]
    refine ⟨hI.n, h.1, fun a ha b hb e => ?_⟩
    subst e
    obtain ⟨t, q, _⟩ := (h.2 a).1 hb
    exact wi_disj hI ha q
  refine ⟨fun x hx => ?_, fun r hp hs => waits_all l hr _ hm hn r hp hs⟩
  have := wi_bound hI ((hm x).1 hx)
  omega
theorem own_cap {w : World} {base n c : Nat} {e : TypeId} {size : Nat} {A : Option Addr} {xs : List Value} (h : w.ownsRow base e size (.slice A n c) n xs) : n ≤ c ∧ c ≤ 9223372036854775807 := by
  rcases h.2 with ⟨h1, h2⟩ | ⟨g, cap, cur, h1, _, _, h2, h3, _⟩
  · injection h1 with _ h3 h4
    omega
  · injection h1 with _ _ h4
    unfold maxLen at h3
    omega
theorem wf_small {t : Int} (h0 : 0 ≤ t) (h1 : t ≤ 63) : (Lit.int .i64 t).wf = true := by
  simp [Lit.wf, IntKind.min, IntKind.max, IntKind.signed, IntKind.bits]
  omega
theorem lawI : Keyed Try.prog 3 := int_keyed Try.underlying3
theorem zeroWt (w : World) : (zeroValue 60).run Try.prog w = .ok (Wt.mk 0 0 0 0 0).val w := by kernel_rfl
theorem wtInfo : (Try.prog.info? 60).map (fun i => (i.zero, i.size, i.bytes)) = some (some (Wt.mk 0 0 0 0 0).val, 5, 40) := by kernel_rfl
theorem wl_look {P : Program} (w : World) {ops : Array Oper} {rest : List Oper} {o : Oper} {a : Act} {Q : Exit → Act → World → Prop}
    (hg : o.guard = none) (m x : Operand) (t : TypeId) (hop : o.op = Op.lookup t m x true)
    (k e : TypeId) (K : Keyed P k) (ht : P.underlying t = some (.map k e)) (hz : (zeroValue e).run P w = .ok (Wt.mk 0 0 0 0 0).val w) (b n : Nat) (D : DataW Unit) (f : Opn)
    (hm : a.eval m = .map (some b)) (hown : w.ownsMap P k wtElem b n D) (hf : OpAt D f) (u : Int) (hx : a.eval x = .int .i64 u) (hkey : keyOf P k (.int .i64 u) = some (.int .i64 u)) (y1 y2 y3 y4 y5 : Int) (is : Bool) (hy : (f u).getD ⟨0, 0, 0, 0, 0⟩ = ⟨y1, y2, y3, y4, y5⟩) (his : (f u).isSome = is)
    (hK : wpList P ops Q rest (a.put o.dst (.tuple #[.agg #[.int .i64 y1, .int .i64 y2, .int .i64 y3, .int .i64 y4, .int .i64 y5], .bool is])) w) :
    wpList P ops Q (o :: rest) a w :=
  wpList_lookup_wt w hg m x t hop k e K ht hz b n D f hm hown hf u hx hkey ⟨y1, y2, y3, y4, y5⟩ is hy his hK
end Go.Proofs.Ytpndlggahdefcaa
