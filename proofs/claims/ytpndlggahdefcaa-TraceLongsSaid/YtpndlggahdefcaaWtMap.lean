/-
  A map that is ranged over while a key that is there gets another element; maps of waits.
-/
import Derived.Test.YtpndlggahdefcaaWtPure
import Derived.Maps.RangeWalk
namespace Go.Proofs.Ytpndlggahdefcaa
open Go.RowKit Go.Maps Go.ChangeMaps
open Go.WideElems (Fit rd rg pl rd_key rd_val rd_mk rg_of other_key)

theorem ranges_has {H : Type} {P : Program} {k : TypeId} {R : Value → Option (DataW H × List MemPlace)} {w : World} {b r n : Nat} {D : DataW H} {left : Lit → Bool} {cnt : Nat} (h : w.ranges P k R b r n D left cnt) (K : Keyed P k) {kl : Lit} (hl : left kl = true) : Maps.has D kl = true := by
  obtain ⟨es, clock, since, seen, c0, hb, F, hs, rfl, hr, hold, rfl, hl1, hl2, hsc, hsk⟩ := h
  obtain ⟨x, hx, rfl⟩ := hl2 kl hl
  obtain ⟨y, hy⟩ := F.reads x hx
  exact List.any_eq_true.2 ⟨rg P k R x, mem_sorted.2 (List.mem_map.2 ⟨x, hx, rfl⟩), WideAt.sameKey_self (by rw [rg_of hy]; exact K.key (rd_key hy))⟩
theorem setBlock_inj {w : World} {b : Nat} {o o' : Obj} (hb : b < w.heap.size) (h : setBlock w b o = setBlock w b o') : o = o' := by
  have h1 : (setBlock w b o).heap[b]? = some o := by simp [setBlock, hb]
  have h2 : (setBlock w b o').heap[b]? = some o' := by simp [setBlock, hb]
  rw [h, h2] at h1
  injection h1 with h1
  exact h1.symm
theorem left_len {es es' : Array MapEntry} (seen : Array Nat) (h : es'.toList.map (·.born) = es.toList.map (·.born)) : (leftOf es' seen).size = (leftOf es seen).size := by
  have e1 : ∀ a : Array MapEntry, (leftOf a seen).size = ((a.toList.map (·.born)).filter fun b => !seen.contains b).length := fun a => by
    unfold leftOf
    rw [← Array.length_toList, Array.toList_filter, List.filter_map, List.length_map]
    rfl
  rw [e1, e1, h]
/-- m[k] = v in the round of a range over m, at a key that is there -/
theorem ranges_put {H : Type} {P : Program} {k : TypeId} {R : Value → Option (DataW H × List MemPlace)} {w : World} {b r n : Nat} {D : DataW H} {left : Lit → Bool} {cnt : Nat} {t e : TypeId}
    (h : w.ranges P k R b r n D left cnt) (K : Keyed P k) (ht : P.underlying t = some (.map k e)) (hn : n < maxLen) {key val : Value} {kl : Lit} {d : DataW H} {ps : List MemPlace} (hkey : keyOf P k key = some kl) (hv : R val = some (d, ps)) (hhas : Maps.has D kl = true) :
    ∃ w', (Instr.mapUpdate t (.map (some b)) key val).run P w = .ok () w' ∧ w'.ranges P k R b r n (D.put kl d) left cnt ∧ w.mapTurned w' b := by
  have hne := h.ne
  have hlt := h.owns.lt
  obtain ⟨es, clock, since, seen, c0, hb, F, hs, rfl, hr, hold, rfl, hl1, hl2, hsc, hsk⟩ := h
  obtain ⟨es', clock', hrun, F', hput, _, _, hwho⟩ := Maps.fit_store (R' := R) K ht hb F (Nat.lt_of_le_of_lt hs hn) (fun _ _ _ _ hz => hz) hkey hv
  rcases K.find w hkey es.toList F.keys with ⟨h1, h2⟩ | ⟨j, e0, h1, h2, h3⟩
  · exfalso
    obtain ⟨p, hp, hpk⟩ := List.any_eq_true.1 hhas
    obtain ⟨x, hx, rfl⟩ := List.mem_map.1 (mem_sorted.1 hp)
    obtain ⟨y, hy⟩ := F.reads x hx
    refine h2 x hx (K.inj (rd_key hy) ?_)
    have := WideAt.sameKey_eq hpk
    rw [rg_of hy] at this
    rw [this]
    exact hkey
  · have hj : es[j]? = some e0 := by simpa using h2
    have hrun2 : (Instr.mapUpdate t (.map (some b)) key val).run P w = .ok () (setBlock w b (.map (es.modify j (fun e' => { e' with key := key, val := val })) clock)) := by
      simp [Instr.mapUpdate, run_underlying ht, MapKept.run_getObj_map hb, K.check w false hkey, h1, hj, h3, K.stays w hkey, MapKept.run_setObj_map _ hb, Result.andThen, setBlock]
    have heq : (es' : Array MapEntry) = es.modify j (fun e' => { e' with key := key, val := val }) ∧ clock' = clock := by
      rw [hrun2] at hrun
      injection hrun with _ hrun
      have := setBlock_inj hlt hrun
      injection this with q1 q2
      exact ⟨q1.symm, q2.symm⟩
    obtain ⟨hes, rfl⟩ := heq
    have hlist : es'.toList = es.toList.set j { e0 with key := key, val := val } := by rw [hes, Array.toList_modify, modify_eq_set _ _ _ _ h2]
    have hborn : es'.toList.map (·.born) = es.toList.map (·.born) := by
      rw [hlist, List.map_set]
      apply List.ext_getElem?
      intro i
      rw [List.getElem?_set]
      split
      · rename_i q
        subst q
        have hjl := (List.getElem?_eq_some_iff.1 h2).1
        rw [if_pos (by simpa using hjl), List.getElem?_map, h2]
        rfl
      · rfl
    have hmem : ∀ x ∈ es'.toList, x = { e0 with key := key, val := val } ∨ (x ∈ es.toList ∧ x.key ≠ key) := fun x hx => by
      rw [hlist] at hx
      obtain ⟨i, hi, ex⟩ := List.getElem_of_mem hx
      rw [List.getElem_set] at ex
      split at ex
      · exact .inl ex.symm
      · rename_i hne2
        have hi' : i < es.toList.length := by simpa using hi
        refine .inr ⟨ex ▸ List.getElem_mem hi', ?_⟩
        rw [← h3]
        exact other_key F h2 (by rw [List.getElem?_eq_getElem hi', ex]) (fun e1 => hne2 e1.symm)
    have he0 : e0 ∈ es.toList := List.mem_of_getElem? h2
    have hrg0 : (rg P k R e0).1 = kl := by
      obtain ⟨y, hy⟩ := F.reads e0 he0
      rw [rg_of hy]
      have := rd_key hy
      rw [h3, hkey] at this
      injection this with this
      exact this.symm
    refine ⟨_, hrun, ⟨es', clock', since, seen, c0, heap_setBlock_same hb _, F', ?_, by rw [DataW.put_eq, hput], (heap_setBlock_other hb _ hne).trans hr, ?_, left_len seen hborn, ?_, ?_, hsc, hsk⟩, ⟨es, clock', es', clock', hb, rfl⟩⟩
    · rw [hes, Array.size_modify]
      exact hs
    · intro x hx
      rcases hmem x hx with rfl | ⟨h4, _⟩
      · exact hold e0 he0
      · exact hold x h4
    · intro x hx
      rcases hmem x hx with rfl | ⟨h4, _⟩
      · rw [rg_of (rd_mk hkey hv), ← hrg0]
        exact hl1 e0 he0
      · exact hl1 x h4
    · intro kl' hk'
      obtain ⟨x, hx, rfl⟩ := hl2 kl' hk'
      obtain ⟨i, hi⟩ := List.getElem?_of_mem hx
      by_cases e : i = j
      · subst e
        rw [hi] at h2
        injection h2 with h2
        subst h2
        refine ⟨{ x with key := key, val := val }, ?_, by rw [rg_of (rd_mk hkey hv), hrg0]⟩
        rw [hlist]
        exact List.mem_iff_getElem?.2 ⟨i, by rw [List.getElem?_set, if_pos rfl, if_pos (List.getElem?_eq_some_iff.1 hi).1]⟩
      · refine ⟨x, ?_, rfl⟩
        rw [hlist]
        exact List.mem_iff_getElem?.2 ⟨i, by rw [List.getElem?_set_ne (fun q => e q.symm)]; exact hi⟩
theorem wpList_mapUpdate_ranges {H : Type} {P : Program} (w : World) {ops : Array Oper} {rest : List Oper} {o : Oper} {a : Act} {Q : Exit → Act → World → Prop}
    (hg : o.guard = none) (m x v : Operand) (t : TypeId) (hop : o.op = Op.mapUpdate t m x v) (k e : TypeId) (K : Keyed P k) (ht : P.underlying t = some (.map k e)) (R : Value → Option (DataW H × List MemPlace)) (b r n : Nat) (D : DataW H) (left : Lit → Bool) (cnt : Nat)
    (hm : a.eval m = .map (some b)) (h : w.ranges P k R b r n D left cnt) (hn : n < maxLen) (key val : Value) (kl : Lit) (hx : a.eval x = key) (hv : a.eval v = val) (hkey : keyOf P k key = some kl) (d : DataW H) (ps : List MemPlace) (hval : R val = some (d, ps)) (hhas : Maps.has D kl = true)
    (hK : ∀ w', w'.ranges P k R b r n (D.put kl d) left cnt → w.mapTurned w' b → wpList P ops Q rest (a.put o.dst undef) w') :
    wpList P ops Q (o :: rest) a w := by
  refine wpList_plain hg fun K' hK' => ?_
  obtain ⟨w', hrun, r1, r2⟩ := ranges_put h K ht hn hkey hval hhas
  unfold Oper.wp
  simp [execOp, hop, hm, hx, hv, hrun, Result.andThen]
  exact hK' _ _ (hK w' r1 r2)
/-! ### maps of waits -/
def Wt.val (x : Wt) : Value := .agg x.cells.toArray
def Wt.dat (x : Wt) : DataW Unit := .agg [.lit (.int .i64 x.t), .lit (.int .i64 x.w), .lit (.int .i64 x.f), .lit (.int .i64 x.o), .lit (.int .i64 x.b)]
def wtElem : Value → Option (DataW Unit × List MemPlace)
  | .agg cs => match cs.toList with
    | [.int .i64 a, .int .i64 b, .int .i64 c, .int .i64 d, .int .i64 e] => some ((Wt.mk a b c d e).dat, [])
    | _ => none
  | _ => none
theorem wtElem_mk (x : Wt) : wtElem x.val = some (x.dat, []) := rfl
theorem wtElem_inv {v : Value} {z : DataW Unit × List MemPlace} (h : wtElem v = some z) : ∃ x : Wt, v = x.val ∧ z = (x.dat, []) := by
  unfold wtElem at h
  split at h
  · rename_i cs
    split at h
    · rename_i a b c d e hcs
      injection h with h
      exact ⟨⟨a, b, c, d, e⟩, by rw [← Array.toArray_toList (xs := cs), hcs]; rfl, h.symm⟩
    · cases h
  · cases h
theorem dat_inj {x y : Wt} (h : x.dat = y.dat) : x = y := by
  obtain ⟨a, b, c, d, e⟩ := x
  obtain ⟨a', b', c', d', e'⟩ := y
  simpa [Wt.dat] using h
/-- the map reads as the open waits -/
def OpAt (D : DataW Unit) (f : Opn) : Prop := ∀ t : Int, (f t = none → Maps.has D (.int .i64 t) = false) ∧ ∀ x, f t = some x → Maps.has D (.int .i64 t) = true ∧ ∀ zd, D.atKey (.int .i64 t) zd = x.dat
theorem opat_none : OpAt (.map []) (fun _ => none) := fun t => ⟨fun _ => rfl, fun x h => (by cases h)⟩
theorem OpAt.has {D : DataW Unit} {f : Opn} (h : OpAt D f) (t : Int) : Maps.has D (.int .i64 t) = (f t).isSome := by
  cases e : f t with
  | none => exact (h t).1 e
  | some x => exact ((h t).2 x e).1
theorem OpAt.put {D : DataW Unit} {f g : Opn} (h : OpAt D f) (hD : IsMap D) (t : Int) (x : Wt) (hg : g = fun u => if u = t then some x else f u) : OpAt (D.put (.int .i64 t) x.dat) g := fun u => by
  subst hg
  by_cases e : u = t
  · subst e
    have hk : WideAt.IsKeyLit (.int .i64 u) := trivial
    simp only [if_true]
    exact ⟨fun q => (by cases q), fun y q => (by injection q with q; subst q; exact ⟨Maps.has_put_same hD hk _, fun zd => Maps.atKey_put_same hD hk _ _⟩)⟩
  · have hne : (Lit.int .i64 u) ≠ .int .i64 t := fun he => e (by injection he)
    simp only [if_neg e]
    rw [Maps.has_put_other hne]
    exact ⟨(h u).1, fun y q => ⟨((h u).2 y q).1, fun zd => by rw [Maps.atKey_put_other hne]; exact ((h u).2 y q).2 zd⟩⟩
theorem OpAt.del {D : DataW Unit} {f g : Opn} (h : OpAt D f) (t : Int) (hg : g = fun u => if u = t then none else f u) : OpAt (D.del (.int .i64 t)) g := fun u => by
  subst hg
  by_cases e : u = t
  · subst e
    simp only [if_true]
    exact ⟨fun _ => Maps.has_del_same, fun y q => (by cases q)⟩
  · have hne : (Lit.int .i64 u) ≠ .int .i64 t := fun he => e (by injection he)
    simp only [if_neg e]
    rw [Maps.has_del_other hne]
    exact ⟨(h u).1, fun y q => ⟨((h u).2 y q).1, fun zd => by rw [Maps.atKey_del_other hne]; exact ((h u).2 y q).2 zd⟩⟩
theorem OpAt.congr {D : DataW Unit} {f g : Opn} (h : OpAt D f) (e : ∀ t, f t = g t) : OpAt D g := by
  obtain rfl : f = g := funext e
  exact h
/-- the step of a range over a map of waits -/
theorem wpList_next_wt {P : Program} (w : World) {ops : Array Oper} {rest : List Oper} {o : Oper} {a : Act} {Q : Exit → Act → World → Prop}
    (hg : o.guard = none) (it : Operand) (hop : o.op = Op.next it false) (k : TypeId) (K : Keyed P k) (hk : P.underlying k = some (.int .i64))
    (b r n : Nat) (D : DataW Unit) (f : Opn) (left : Lit → Bool) (cnt : Nat) (hit : a.eval it = .pointer (some ⟨r, 0, none⟩)) (h : w.ranges P k wtElem b r n D left cnt) (hf : OpAt D f)
    (hDone : (∀ kl, left kl = false) → wpList P ops Q rest (a.put o.dst (.tuple #[.bool false])) w)
    (hMore : ∀ (t : Int) (x : Wt) (w' : World) (cnt' : Nat), (Lit.int .i64 t).wf = true → left (.int .i64 t) = true → f t = some x → w'.ranges P k wtElem b r n D (fun z => left z && !z.sameKey (.int .i64 t)) cnt' → cnt' < cnt →
      w.grownBy w' (some r) → w'.heap.size = w.heap.size → (Instr.entry (.pointer (some ⟨r, 0, none⟩))).run P w' = .ok (.tuple #[.int .i64 t, x.val]) w' → wpList P ops Q rest (a.put o.dst (.tuple #[.bool true, .int .i64 t, x.val])) w') :
    wpList P ops Q (o :: rest) a w :=
  wpList_next_ranges w hg it hop k K wtElem (Value.int .i64) Wt.val (fun key kl hkey => by obtain ⟨x, rfl, _⟩ := Maps.keyOf_int_inv hk hkey; exact ⟨x, rfl⟩) (fun v y hv => by obtain ⟨c, rfl, _⟩ := wtElem_inv hv; exact ⟨c, rfl⟩)
    b r n D left cnt hit h (fun _ hl => hDone hl) (fun x c kl y w' cnt' hkey hlk hv hat hrg hlt hgr hsz hen => by
      obtain ⟨x', ex, rfl, hwx⟩ := Maps.keyOf_int_inv hk hkey
      cases ex
      have hhas := ranges_has h K hlk
      rw [hf.has] at hhas
      obtain ⟨z, hz⟩ := Option.isSome_iff_exists.1 hhas
      have h2 := ((hf x).2 z hz).2 (.agg [])
      rw [hat] at h2
      have hv2 := hv
      rw [wtElem_mk] at hv2
      injection hv2 with hv2
      rw [← hv2] at h2
      obtain rfl := dat_inj h2
      exact hMore x c w' cnt' hwx hlk hz hrg hlt hgr hsz hen)
/-- v, ok := m[k] of a map of waits -/
theorem wpList_lookup_wt {P : Program} (w : World) {ops : Array Oper} {rest : List Oper} {o : Oper} {a : Act} {Q : Exit → Act → World → Prop}
    (hg : o.guard = none) (m x : Operand) (t : TypeId) (hop : o.op = Op.lookup t m x true)
    (k e : TypeId) (K : Keyed P k) (ht : P.underlying t = some (.map k e)) (hz : (zeroValue e).run P w = .ok (Wt.mk 0 0 0 0 0).val w) (b n : Nat) (D : DataW Unit) (f : Opn)
    (hm : a.eval m = .map (some b)) (hown : w.ownsMap P k wtElem b n D) (hf : OpAt D f) (u : Int) (hx : a.eval x = .int .i64 u) (hkey : keyOf P k (.int .i64 u) = some (.int .i64 u)) (y : Wt) (is : Bool) (hy : (f u).getD ⟨0, 0, 0, 0, 0⟩ = y) (his : (f u).isSome = is)
    (hK : wpList P ops Q rest (a.put o.dst (.tuple #[y.val, .bool is])) w) :
    wpList P ops Q (o :: rest) a w :=
  wpList_lookup_own_ok w hg m x t hop k e K ht wtElem hz (Wt.mk 0 0 0 0 0).dat [] (wtElem_mk _) b n D hm hown _ _ hx hkey (fun v ps hv => by
    obtain ⟨c, rfl, hc⟩ := wtElem_inv hv
    rw [hf.has, his]
    have hd : D.atKey (.int .i64 u) (Wt.mk 0 0 0 0 0).dat = y.dat := by
      subst hy
      cases e : f u with
      | none => exact Maps.atKey_of_not_has ((hf u).1 e) _
      | some z => exact ((hf u).2 z e).2 _
    rw [hd] at hc
    injection hc with hc _
    rw [← dat_inj hc]
    exact hK)
end Go.Proofs.Ytpndlggahdefcaa
