/-
  Nodes, an arena and programs that stand side by side, and what each helper of the law does to them.
-/
import Derived.Test.YtmlhdcpahfgckaaMcsA
namespace Go.Proofs.Ytmlhdcpahfgckaa
open Go.RowKit

/-- nodes at nb, an arena at b and g, programs ps (block, gives back, what it holds), all newer than the world W -/
structure KS (W w : World) (nb : Nat) (B t : Int) (b g c : Nat) (ws : List Int) (ps : List (Nat × Bool × Rn)) : Prop where
  nd : NdAt w nb B t
  mem : MemAt w b g c ws
  run : ∀ p ∈ ps, RnAt w p.1 nb (Tp p.2.1) p.2.2 ∧ pcOk p.2.1 p.2.2 ∧ (0 ≤ p.2.2.node ∧ p.2.2.node < t * 2) ∧ (0 ≤ p.2.2.other ∧ p.2.2.other ≤ 18446744073709551615) ∧ W.heap.size ≤ p.1
  dif : ∀ (i j : Nat) (p q : Nat × Bool × Rn), ps[i]? = some p → ps[j]? = some q → i ≠ j → p.1 ≠ q.1
  below : Below W.heap.size W w
  gW : W.heap.size ≤ g
  bW : W.heap.size ≤ b
  nW : W.heap.size ≤ nb

theorem Tp_ne (bk : Bool) : Tp bk ≠ 22 ∧ Tp bk ≠ 101 ∧ Tp bk ≠ 62 := by cases bk <;> decide
section
variable {W w w' : World} {nb b g c : Nat} {B t : Int} {ws ws' : List Int} {ps : List (Nat × Bool × Rn)} {r : Nat} {bk : Bool} {x x' : Rn} {v : Value} {e : Ending} {f : FuncId} {args : Array Value}
theorem KS.sat (h : KS W w nb B t b g c ws ps) {i : Nat} (hi : ps[i]? = some (r, bk, x)) : Sat w bk r nb b g c B t x ws := by
  obtain ⟨h1, h2, h3, h4, _⟩ := h.run _ (List.mem_of_getElem? hi)
  have hT := Tp_ne bk
  obtain ⟨sp, hrow⟩ := h.mem.row
  exact ⟨⟨h1, h.nd, h.mem, Blk.ne h1 hrow hT.1, Blk.ne h.nd.c hrow (by decide), Blk.ne h.nd.c h1 hT.2.2.symm, Blk.ne h.mem.hd h1 hT.2.1.symm, h3.1, h3.2, h4.1, h4.2⟩, h2⟩
theorem KS.step (h : KS W w nb B t b g c ws ps) (hb : Below w.heap.size w w') : KS W w' nb B t b g c ws ps :=
  ⟨h.nd.below hb, h.mem.below hb, fun p hp => ⟨Blk.keep (h.run p hp).1 (Ch.of_below hb (fun _ => False)) (fun e => e), (h.run p hp).2⟩, h.dif, h.below.trans (hb.mono h.below.size), h.gW, h.bW, h.nW⟩
theorem KS.turn (h : KS W w nb B t b g c ws ps) {i : Nat} (hi : ps[i]? = some (r, bk, x)) (hs : Sat w' bk r nb b g c B t x' ws') (hc : Ch (fun j => j = r ∨ j = g) w w') : KS W w' nb B t b g c ws' (ps.set i (r, bk, x')) := by
  have hr := (h.run _ (List.mem_of_getElem? hi)).2.2.2.2
  refine ⟨hs.s.nd, hs.s.mem, fun p hp => ?_, fun k j p q hp hq hkj => ?_, h.below.trans (hc.below (fun j _ e => ?_) h.below.size), h.gW, h.bW, h.nW⟩
  · obtain ⟨k, hk⟩ := List.mem_iff_getElem?.1 hp
    by_cases hik : i = k
    · subst hik
      have hl : i < ps.length := (List.getElem?_eq_some_iff.1 hi).1
      rw [List.getElem?_set_self hl] at hk
      injection hk with hk
      subst hk
      exact ⟨hs.s.run, hs.p, ⟨hs.s.n0, hs.s.n1⟩, ⟨hs.s.o0, hs.s.o1⟩, hr⟩
    · rw [List.getElem?_set_ne hik] at hk
      have hm := h.run _ (List.mem_of_getElem? hk)
      have hT := Tp_ne p.2.1
      obtain ⟨sp, hrow⟩ := h.mem.row
      refine ⟨Blk.keep hm.1 hc ?_, hm.2⟩
      rintro (e | e)
      · exact h.dif _ _ _ _ hi hk hik e.symm
      · exact Blk.ne hm.1 hrow hT.1 e
  · have hset : ∀ (k : Nat) (p : Nat × Bool × Rn), (ps.set i (r, bk, x'))[k]? = some p → ∃ p', ps[k]? = some p' ∧ p'.1 = p.1 := fun k p hp => by
      by_cases hik : i = k
      · subst hik
        have hl : i < ps.length := (List.getElem?_eq_some_iff.1 hi).1
        rw [List.getElem?_set_self hl] at hp
        injection hp with hp
        subst hp
        exact ⟨_, hi, rfl⟩
      · rw [List.getElem?_set_ne hik] at hp
        exact ⟨p, hp, rfl⟩
    obtain ⟨p', hp', e1⟩ := hset k p hp
    obtain ⟨q', hq', e2⟩ := hset j q hq
    rw [← e1, ← e2]
    exact h.dif _ _ _ _ hp' hq' hkj
  · rcases e with rfl | rfl
    · exact hr
    · exact h.gW
theorem KS.onP (h : KS W w nb B t b g c ws ps) {i : Nat} (hi : ps[i]? = some (r, bk, x)) (hc : Calls Try.prog f args w (SaP w bk r nb b g c B t x' ws' v)) :
    Calls Try.prog f args w fun e w' => e = .returned v ∧ KS W w' nb B t b g c ws' (ps.set i (r, bk, x')) :=
  hc.mono fun _ _ ⟨h1, h2, h3⟩ => ⟨h1, h.turn hi h2 h3⟩
theorem KS.onM (h : KS W w nb B t b g c ws ps) (hc : Calls Try.prog f args w (MPost w b g c ws' v)) : Calls Try.prog f args w fun e w' => e = .returned v ∧ KS W w' nb B t b g c ws' ps :=
  hc.mono fun _ _ ⟨h1, h2, h3⟩ => by
    have hne : ∀ p ∈ ps, p.1 ≠ g := fun p hp => by
      obtain ⟨sp, hrow⟩ := h.mem.row
      exact Blk.ne (h.run p hp).1 hrow (Tp_ne _).1
    have hng : nb ≠ g := by
      obtain ⟨sp, hrow⟩ := h.mem.row
      exact Blk.ne h.nd.c hrow (by decide)
    exact ⟨h1, h.nd.keep h3 hng, h2, fun p hp => ⟨Blk.keep (h.run p hp).1 h3 (hne p hp), (h.run p hp).2⟩, h.dif, h.below.trans (h3.below (fun j _ e => e ▸ h.gW) h.below.size), h.gW, h.bW, h.nW⟩
/-- an arena in another's place -/
theorem KS.arena {b' g' c' : Nat} (h : KS W w nb B t b g c ws ps) (hm : MemAt w b' g' c' ws') (hg : W.heap.size ≤ g') (hb : W.heap.size ≤ b') : KS W w nb B t b' g' c' ws' ps :=
  ⟨h.nd, hm, h.run, h.dif, h.below, hg, hb, h.nW⟩
theorem KS.drop (h : KS W w nb B t b g c ws ps) : KS W w nb B t b g c ws [] := ⟨h.nd, h.mem, fun p hp => (by cases hp), fun i j p q hp => (by simp at hp), h.below, h.gW, h.bW, h.nW⟩
/-- another program -/
theorem KS.more (h : KS W w nb B t b g c ws ps) (hb : Below w.heap.size w w') (hr : RnAt w' r nb (Tp bk) x) (hw : w.heap.size ≤ r) (hp : pcOk bk x) (hn : 0 ≤ x.node ∧ x.node < t * 2) (ho : 0 ≤ x.other ∧ x.other ≤ 18446744073709551615) : KS W w' nb B t b g c ws (ps ++ [(r, bk, x)]) := by
  have h' := h.step hb
  have hz := h.below.size
  refine ⟨h'.nd, h'.mem, fun p hp' => ?_, fun i j p q hi hj hij => ?_, h'.below, h.gW, h.bW, h.nW⟩
  · rcases List.mem_append.1 hp' with hp' | hp'
    · exact h'.run p hp'
    · obtain rfl := List.mem_singleton.1 hp'
      exact ⟨hr, hp, hn, ho, by show W.heap.size ≤ r; omega⟩
  · have hlt : ∀ (k : Nat) (p : Nat × Bool × Rn), ps[k]? = some p → p.1 < r := fun k p hk => by
      have := (h.run p (List.mem_of_getElem? hk)).1.lt
      omega
    rw [List.getElem?_append] at hi hj
    split at hi <;> split at hj
    · exact h.dif _ _ _ _ hi hj hij
    · have h1 := hlt _ _ hi
      obtain ⟨hl, he⟩ := List.getElem?_eq_some_iff.1 hj
      simp at hl
      have : j - ps.length = 0 := by omega
      simp [this] at he
      rw [← he]
      show p.1 ≠ r
      omega
    · have h1 := hlt _ _ hj
      obtain ⟨hl, he⟩ := List.getElem?_eq_some_iff.1 hi
      simp at hl
      have : i - ps.length = 0 := by omega
      simp [this] at he
      rw [← he]
      show r ≠ q.1
      omega
    · obtain ⟨hl, _⟩ := List.getElem?_eq_some_iff.1 hi
      obtain ⟨hl2, _⟩ := List.getElem?_eq_some_iff.1 hj
      simp at hl hl2
      omega
theorem pcOk_new (bk : Bool) (lock node : Int) : pcOk bk ⟨lock, node, 1, 0, false⟩ := by cases bk <;> (unfold pcOk; simp)
theorem KS.begin (h : KS W w nb B t b g c ws ps) (lock node : Int) (bk : Bool) (hk : okRun B t lock node) :
    Calls Try.prog 13 #[.pointer (some ⟨nb, 0, none⟩), .int .i64 lock, .int .i64 node, .bool bk] w fun e w' => ∃ r, e = .returned (.tuple #[progI bk r, .int .i64 0]) ∧ KS W w' nb B t b g c ws (ps ++ [(r, bk, ⟨lock, node, 1, 0, false⟩)]) :=
  (begin_ok nb B t lock node bk w h.nd hk).mono fun _ _ ⟨r, he, hr, hR, hB⟩ => ⟨r, he, h.more hB hR hr (pcOk_new bk lock node) ⟨hk.2.2.2.1, hk.2.2.2.2⟩ ⟨Int.le_refl 0, (by decide : (0 : Int) ≤ 18446744073709551615)⟩⟩
theorem KS.steps (h : KS W w nb B t b g c ws ps) (i : Nat) (many : Nat) (dn : Bool) (hi : ps[i]? = some (r, bk, x)) (hN : stpN bk B t many x ws = some (x', ws')) (hd : x'.ended = dn) (hm : many ≤ 1000) :
    Calls Try.prog 14 #[progI bk r, memI b, .int .i64 many, .bool dn] w fun e w' => e = .returned (.bool true) ∧ KS W w' nb B t b g c ws' (ps.set i (r, bk, x')) := by
  have := h.onP hi (steps_any bk r nb b g c B t x x' ws ws' many dn w (h.sat hi) hN hm)
  rw [hd, beq_self_eq_true] at this
  exact this
theorem KS.waits (h : KS W w nb B t b g c ws ps) (i : Nat) (hi : ps[i]? = some (r, bk, x)) (h1 : stp bk B t x ws = ⟨x, ws, true, 0⟩) (h5 : x.ended = false) :
    Calls Try.prog 21 #[progI bk r, memI b] w fun e w' => e = .returned (.bool true) ∧ KS W w' nb B t b g c ws ps := by
  have := h.onP hi (waits_any bk r nb b g c B t x ws w (h.sat hi) (by rw [h1]) (by rw [h1]) (by rw [h1]) (by rw [h1]) h5)
  have e : ps.set i (r, bk, x) = ps := by
    obtain ⟨hl, he⟩ := List.getElem?_eq_some_iff.1 hi
    rw [← he, List.set_getElem_self]
  rwa [e] at this
theorem KS.word (h : KS W w nb B t b g c ws ps) (i want : Int) (hv : doB ws 1 i = want) (he : doE ws 1 i = 0) :
    Calls Try.prog 15 #[.pointer (some ⟨b, 0, none⟩), .int .i64 i, .int .u64 want] w fun e w' => e = .returned (.bool true) ∧ KS W w' nb B t b g c ws ps :=
  h.onM (word_any b g c ws i want w h.mem hv he)
end
end Go.Proofs.Ytmlhdcpahfgckaa
