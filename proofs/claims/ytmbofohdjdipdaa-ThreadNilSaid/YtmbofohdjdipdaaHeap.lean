/-
  Words for memory that every text of this seat uses: what a slice reads as; what a call may have changed; a block known whole.
-/
import Derived.Test.YtmbofohdjdipdaaBase
import Derived.Maps.AppendAt
import Derived.OwnWalk
import Derived.Lib.LazyBuf
namespace Go.Proofs.Ytmbofohdjdipdaa
open Go.RowKit

/-- only blocks of F, and new ones, may have changed -/
structure Ch (F : Nat → Prop) (w w' : World) : Prop where
  os : w'.os = w.os
  tape : w'.tape = w.tape
  output : w'.output = w.output
  size : w.heap.size ≤ w'.heap.size
  block : ∀ k, k < w.heap.size → ¬ F k → w'.heap[k]? = w.heap[k]?

section
variable {F G : Nat → Prop} {w w' w'' : World} {B : Nat}
theorem Ch.refl (F : Nat → Prop) (w : World) : Ch F w w := ⟨rfl, rfl, rfl, Nat.le_refl _, fun _ _ _ => rfl⟩
theorem Ch.trans (h : Ch F w w') (k : Ch G w' w'') (hg : ∀ j, j < w.heap.size → G j → F j) : Ch F w w'' :=
  ⟨k.os.trans h.os, k.tape.trans h.tape, k.output.trans h.output, Nat.le_trans h.size k.size, fun j hj hf =>
    (k.block j (Nat.lt_of_lt_of_le hj h.size) (fun e => hf (hg j hj e))).trans (h.block j hj hf)⟩
theorem Ch.mono (h : Ch F w w') (hg : ∀ j, j < w.heap.size → F j → G j) : Ch G w w' := ⟨h.os, h.tape, h.output, h.size, fun j hj hf => h.block j hj (fun e => hf (hg j hj e))⟩
theorem Ch.same (h : Ch F w w') (k : Ch F w' w'') : Ch F w w'' := h.trans k fun _ _ e => e
theorem Ch.of_below (h : Below w.heap.size w w') (F : Nat → Prop) : Ch F w w' := ⟨h.os, h.tape, h.output, h.size, fun j hj _ => h.block j hj⟩
theorem Ch.below (h : Ch F w w') (hf : ∀ j, j < w.heap.size → F j → B ≤ j) (hB : B ≤ w.heap.size) : Below B w w' :=
  ⟨h.os, h.tape, h.output, h.size, fun j hj => h.block j (by omega) (fun e => by have := hf j (by omega) e; omega)⟩
theorem Ch.belowSelf (h : Ch F w w') (hf : ∀ j, j < w.heap.size → ¬ F j) : Below w.heap.size w w' := h.below (fun j hj e => absurd e (hf j hj)) (Nat.le_refl _)
theorem Ch.of_grown {row : Option Nat} (h : w.grownBy w' row) : Ch (fun k => row = some k) w w' := ⟨h.os, h.tape, h.output, h.size, fun j hj hf => h.block j hj (fun e => hf e.symm)⟩
theorem Ch.drew (h : Ch F w w') : Ch F w w'.drew := ⟨h.os, h.tape, h.output, h.size, h.block⟩
theorem Ch.drewN (h : Ch F w w') (n : Nat) : Ch F w (w'.drewN n) := h.trans (Ch.of_below (below_drewN (Below.refl _ _) n) F) fun _ _ e => e
theorem Ch.alloc (h : Ch F w w') (o : Obj) : Ch F w (w'.alloc o) := h.trans (Ch.of_below ((Below.refl _ _).alloc (Nat.le_refl _) o) F) fun _ _ e => e
theorem Ch.setCell (h : Ch F w w') {p : Addr} (hp : F p.block ∨ w.heap.size ≤ p.block) (u : Value) : Ch F w (w'.setCell p u) := by
  refine ⟨h.os, h.tape, h.output, by simpa [World.setCell] using h.size, fun j hj hf => ?_⟩
  rw [Below.heap_setCell _ _ _ _ (by rintro rfl; rcases hp with hp | hp; exact hf hp; omega)]
  exact h.block j hj hf
theorem Ch.cell (h : Ch F w w') {p : Addr} (hp : p.block < w.heap.size) (hf : ¬ F p.block) : w'.cell? p = w.cell? p := World.cell?_of_block (h.block _ hp hf)
theorem Ch.frozen (h : Ch F w w') {p : Addr} (hp : p.block < w.heap.size) (hf : ¬ F p.block) : w'.frozen? p = w.frozen? p := World.frozen?_of_block (h.block _ hp hf)
theorem Ch.keeps {p : Addr} {v : Value} (h : Ch F w w') (hc : w.cell? p = some v) (hf : ¬ F p.block) : w'.cell? p = some v := (h.cell (World.block_lt_of_cell? _ _ hc) hf).trans hc
end

/-- block g is just the cells cs, of element type t, none of them frozen -/
def Blk (w : World) (g : Nat) (t : TypeId) (cs : List Value) : Prop := w.heap[g]? = some (.cells cs.toArray t (0, 0))

section
variable {F : Nat → Prop} {w w' : World} {g : Nat} {t : TypeId} {cs : List Value}
theorem Blk.lt (h : Blk w g t cs) : g < w.heap.size := by
  rcases Nat.lt_or_ge g w.heap.size with hl | hl
  · exact hl
  · unfold Blk at h
    rw [Array.getElem?_eq_none hl] at h
    cases h
theorem Blk.cell (h : Blk w g t cs) (i : Nat) : w.cell? ⟨g, i, none⟩ = cs[i]? := by
  unfold Blk at h
  simp [World.cell?, h]
theorem Blk.frozen (h : Blk w g t cs) (i : Nat) : w.frozen? ⟨g, i, none⟩ = false := by
  unfold Blk at h
  simp [World.frozen?, h]
theorem Blk.keep (h : Blk w g t cs) (hc : Ch F w w') (hf : ¬ F g) : Blk w' g t cs := (hc.block g h.lt hf).trans h
theorem Blk.new (w : World) (t : TypeId) (cs : List Value) : Blk (w.alloc (.cells cs.toArray t)) w.heap.size t cs := heap_alloc_new w _
theorem Blk.set (h : Blk w g t cs) (i : Nat) (u : Value) : Blk (w.setCell ⟨g, i, none⟩ u) g t (cs.set i u) := by
  unfold Blk at h ⊢
  simp [World.setCell, Array.getElem?_modify, h]
theorem Blk.ne {g' : Nat} {t' : TypeId} {cs' : List Value} (h : Blk w g t cs) (h' : Blk w g' t' cs') (hne : t ≠ t') : g ≠ g' := by
  rintro rfl
  unfold Blk at h h'
  rw [h] at h'
  injection h' with h'
  injection h' with _ ht
  exact hne ht
end

/-- the slice '.slice A n c' reads as the cells vs; its block meets G -/
def Rd (G : Nat → Prop) (w : World) (A : Option Addr) (vs : List Value) : Prop :=
  vs ≠ [] → ∃ b o, A = some ⟨b, o, none⟩ ∧ G b ∧ b < w.heap.size ∧ ∀ j v, vs[j]? = some v → w.cell? ⟨b, o + j, none⟩ = some v

section
variable {F G G' : Nat → Prop} {w w' : World} {A : Option Addr} {vs : List Value}
theorem Rd.nil (G : Nat → Prop) (w : World) (A : Option Addr) : Rd G w A [] := fun h => absurd rfl h
theorem Rd.at (h : Rd G w A vs) {j : Nat} (hj : j < vs.length) : ∃ b o, A = some ⟨b, o, none⟩ ∧ G b ∧ w.cell? ⟨b, o + j, none⟩ = some vs[j] := by
  obtain ⟨b, o, e, hg, _, hc⟩ := h (by rintro rfl; simp at hj)
  exact ⟨b, o, e, hg, hc j _ (List.getElem?_eq_getElem hj)⟩
theorem Rd.keep (h : Rd G w A vs) (hc : Ch F w w') (hf : ∀ b, b < w.heap.size → G b → ¬ F b) : Rd G w' A vs := fun hn => by
  obtain ⟨b, o, e, hg, hl, hv⟩ := h hn
  exact ⟨b, o, e, hg, Nat.lt_of_lt_of_le hl hc.size, fun j v hj => hc.keeps (hv j v hj) (hf b hl hg)⟩
theorem Rd.mono (h : Rd G w A vs) (hg : ∀ b, b < w.heap.size → G b → G' b) : Rd G' w A vs := fun hn => by
  obtain ⟨b, o, e, h1, hl, hv⟩ := h hn
  exact ⟨b, o, e, hg b hl h1, hl, hv⟩
theorem Rd.take (h : Rd G w A vs) (n : Nat) : Rd G w A (vs.take n) := fun hn => by
  obtain ⟨b, o, e, hg, hl, hv⟩ := h (by rintro rfl; simp at hn)
  exact ⟨b, o, e, hg, hl, fun j v hj => hv j v (by rw [List.getElem?_take] at hj; split at hj; exact hj; cases hj)⟩
theorem Rd.drewN (h : Rd G w A vs) (n : Nat) : Rd G (w.drewN n) A vs := h.keep ((Ch.refl (fun _ => False) _).drewN n) (fun _ _ _ e => e)
theorem Rd.of_blk {g : Nat} {t : TypeId} {cs : List Value} (h : Blk w g t cs) (hs : vs <+: cs) (hG : G g) : Rd G w (some ⟨g, 0, none⟩) vs := fun _ => by
  refine ⟨g, 0, rfl, hG, h.lt, fun j v hj => ?_⟩
  rw [Nat.zero_add, h.cell]
  obtain ⟨r, rfl⟩ := hs
  rw [List.getElem?_append_left (List.getElem?_eq_some_iff.1 hj).1]
  exact hj
end

/-! ### append of a slice that reads as cells, onto a slice of the call's own -/
theorem run_append_rd {P : Program} (w : World) (base : Nat) (t ty e : TypeId) (i : TypeInfo) (z : Value) (size bytes : Nat) (ht : P.underlying t = some (.slice e)) (hi : P.info? e = some i) (hz : i.zero = some z)
    (hsize : i.size = size) (hby : i.bytes = bytes) (hzs : z.cells.size = size) (hsz : 0 < size)
    (v : Value) (n : Nat) (xs : List Value) (hown : w.ownsRow base e size v n xs) {G : Nat → Prop} (A : Option Addr) (m c : Nat) (news : List Value) (hr : Rd G w A news) (hA : A = none → c = 0)
    (hl : news.length = m * size) (h1 : ∀ u ∈ news, u.oneCell' = true) (h63 : n + m ≤ maxLen) (hbytes : (n + m) * bytes ≤ 140737488355328) (hbase : base ≤ w.heap.size) :
    ∃ v' w', (Builtin.append_ #[t, t] ty #[v, .slice A m c]).run P w = .ok v' w' ∧ w'.ownsRow base e size v' (n + m) (xs ++ news) ∧ Ch (fun k => v.ownBlock = some k) w w' ∧
      (v'.ownBlock = v.ownBlock ∨ v'.ownBlock = some w.heap.size) := by
  cases A with
  | none =>
    obtain rfl := hA rfl
    have hn : news = [] := by
      apply Classical.byContradiction
      intro hne
      obtain ⟨_, _, e, _⟩ := hr hne
      cases e
    subst hn
    have hm : m = 0 := by
      rcases Nat.eq_zero_or_pos m with h | h
      · exact h
      · have := Nat.mul_pos h hsz
        rw [← hl] at this
        simp at this
    subst hm
    exact ⟨v, w, run_append_owned_none w base t ty e i size ht hi v n xs hown, by simpa using hown, Ch.refl _ _, .inl rfl⟩
  | some ad =>
    obtain ⟨v', w', hrun, h2, h3, _, h5⟩ := run_append_own_at (P := P) w base t ty e i z size bytes ht hi hz hsize hby hzs hsz v n xs hown ad m c news hl
      (fun j u hu => by
        obtain ⟨b, o, e1, _, _, hc⟩ := hr (by rintro rfl; simp at hu)
        injection e1 with e1
        subst e1
        rw [Addr.add_lit]
        exact hc j u hu) h1 h63 hbytes hbase
    exact ⟨v', w', hrun, h2, Ch.of_grown h3 |>.mono (fun _ _ e => e), h5⟩

theorem wpList_append_rd {P : Program} (w : World) {ops : Array Oper} {rest : List Oper} {o : Oper} {a : Act} {Q : Exit → Act → World → Prop} (hgd : o.guard = none) (s x : Operand) (t : TypeId)
    (ho : o.op = .call { callee := .builtin .append, args := #[s, x], argTypes := #[t, t] })
    (base : Nat) (e : TypeId) (i : TypeInfo) (z : Value) (size bytes : Nat) (ht : P.underlying t = some (.slice e)) (hi : P.info? e = some i) (hz : i.zero = some z)
    (hsize : i.size = size) (hby : i.bytes = bytes) (hzs : z.cells.size = size) (hsz : 0 < size)
    (v : Value) (n : Nat) (xs : List Value) (hs : a.eval s = v) (hown : w.ownsRow base e size v n xs) {G : Nat → Prop} (A : Option Addr) (m c : Nat) (news : List Value) (hx : a.eval x = .slice A m c) (hr : Rd G w A news) (hA : A = none → c = 0)
    (hl : news.length = m * size) (h1 : ∀ u ∈ news, u.oneCell' = true) (h63 : n + m ≤ maxLen) (hbytes : (n + m) * bytes ≤ 140737488355328) (hbase : base ≤ w.heap.size)
    (h : ∀ v' w', w'.ownsRow base e size v' (n + m) (xs ++ news) → Ch (fun k => v.ownBlock = some k) w w' → (v'.ownBlock = v.ownBlock ∨ v'.ownBlock = some w.heap.size) → wpList P ops Q rest (a.put o.dst v') w') : wpList P ops Q (o :: rest) a w := by
  refine wpList_plain hgd fun K' hK' => ?_
  obtain ⟨v', w', hrun, h2, h3, h4⟩ := run_append_rd (P := P) w base t o.type e i z size bytes ht hi hz hsize hby hzs hsz v n xs hown A m c news hr hA hl h1 h63 hbytes hbase
  unfold Oper.wp
  simp [execOp, ho, resolve, invoke, builtin, hs, hx, hrun, Result.andThen]
  exact hK' _ _ (h v' w' h2 h3 h4)

theorem oneCell_ints (k : IntKind) (xs : List Int) : ∀ u ∈ xs.map (Value.int k), u.oneCell' = true := by
  intro u hu
  obtain ⟨_, _, rfl⟩ := List.mem_map.1 hu
  rfl
/-- a slice of the call's own reads as its cells -/
theorem Rd.of_own {w : World} {base n c : Nat} {e : TypeId} {size : Nat} {A : Option Addr} {xs : List Value} (h : w.ownsRow base e size (.slice A n c) n xs) : Rd (fun b => base ≤ b ∧ (Value.slice A n c).ownBlock = some b) w A xs := fun hne => by
  obtain ⟨h1, h2⟩ := h
  rcases h2 with ⟨_, h2⟩ | ⟨g, cap, cur, hv, hb, hh, _, _, hcs, hx⟩
  · subst h2
    simp at h1
    exact absurd h1 hne
  · injection hv with hv _ _
    subst hv
    refine ⟨g, 0, rfl, ⟨hb, rfl⟩, ?_, fun j v hj => ?_⟩
    · rcases Nat.lt_or_ge g w.heap.size with hl | hl
      · exact hl
      · rw [Array.getElem?_eq_none hl] at hh; cases hh
    · subst hx
      rw [List.getElem?_take] at hj
      split at hj
      · rw [Nat.zero_add]
        simp only [World.cell?, hh]
        simpa using hj
      · cases hj
theorem own_slice {w : World} {base n : Nat} {e : TypeId} {size : Nat} {v : Value} {xs : List Value} (h : w.ownsRow base e size v n xs) : ∃ A c, v = .slice A n c ∧ n ≤ c ∧ (A = none → c = 0) := by
  rcases h.2 with ⟨rfl, rfl⟩ | ⟨g, cap, cur, rfl, _, _, hc, _⟩
  · exact ⟨none, 0, rfl, Nat.le_refl _, fun _ => rfl⟩
  · exact ⟨some ⟨g, 0, none⟩, cap, rfl, hc, fun e => by cases e⟩
theorem own_keep {F : Nat → Prop} {w w' : World} {base n : Nat} {e : TypeId} {size : Nat} {v : Value} {xs : List Value} (h : w.ownsRow base e size v n xs) (hc : Ch F w w') (hf : ∀ b, v.ownBlock = some b → base ≤ b → ¬ F b) : w'.ownsRow base e size v n xs := by
  obtain ⟨h1, h2⟩ := h
  refine ⟨h1, ?_⟩
  rcases h2 with h2 | ⟨g, cap, cur, hv, hb, hh, r⟩
  · exact .inl h2
  · refine .inr ⟨g, cap, cur, hv, hb, ?_, r⟩
    have hl : g < w.heap.size := by
      rcases Nat.lt_or_ge g w.heap.size with hl | hl
      · exact hl
      · rw [Array.getElem?_eq_none hl] at hh; cases hh
    rw [hc.block g hl (hf g (by rw [hv]; rfl) hb)]
    exact hh
theorem own_new (w : World) (e : TypeId) (size : Nat) : (w.alloc (.cells #[] e)).ownsRow w.heap.size e size (.slice (some ⟨w.heap.size, 0, none⟩) 0 0) 0 [] :=
  ⟨by simp, .inr ⟨w.heap.size, 0, #[], rfl, Nat.le_refl _, heap_alloc_new w _, Nat.le_refl _, by unfold maxLen; omega, by simp, by simp⟩⟩
theorem own_none (w : World) (base : Nat) (e : TypeId) (size : Nat) : w.ownsRow base e size (.slice none 0 0) 0 [] := ⟨by simp, .inl ⟨rfl, rfl⟩⟩
end Go.Proofs.Ytmbofohdjdipdaa
