/-
  Programs in a list of interfaces, some of them nil; a list of bools; a queue of numbers that loses its first and takes a last one.
-/
import Derived.Test.YtmlhdcpahfgckaaMcsB
import Derived.ArgAppend
namespace Go.Proofs.Ytmlhdcpahfgckaa
open Go.RowKit

def progV : Option (Nat × Bool × Rn) → Value
  | none => .nilIface
  | some (r, bk, _) => progI bk r
/-- as KS, with places that hold no program -/
structure KO (W w : World) (nb : Nat) (B t : Int) (b g c : Nat) (ws : List Int) (pl : List (Option (Nat × Bool × Rn))) : Prop where
  nd : NdAt w nb B t
  mem : MemAt w b g c ws
  run : ∀ p, some p ∈ pl → RnAt w p.1 nb (Tp p.2.1) p.2.2 ∧ pcOk p.2.1 p.2.2 ∧ (0 ≤ p.2.2.node ∧ p.2.2.node < t * 2) ∧ (0 ≤ p.2.2.other ∧ p.2.2.other ≤ 18446744073709551615) ∧ W.heap.size ≤ p.1
  dif : ∀ (i j : Nat) (p q : Nat × Bool × Rn), pl[i]? = some (some p) → pl[j]? = some (some q) → i ≠ j → p.1 ≠ q.1
  below : Below W.heap.size W w
  gW : W.heap.size ≤ g
  bW : W.heap.size ≤ b
  nW : W.heap.size ≤ nb
section
variable {W w w' : World} {nb b g c : Nat} {B t : Int} {ws ws' : List Int} {pl : List (Option (Nat × Bool × Rn))} {r : Nat} {bk : Bool} {x x' : Rn} {v : Value} {e : Ending} {f : FuncId} {args : Array Value}
theorem KO.sat (h : KO W w nb B t b g c ws pl) {i : Nat} (hi : pl[i]? = some (some (r, bk, x))) : Sat w bk r nb b g c B t x ws := by
  obtain ⟨h1, h2, h3, h4, _⟩ := h.run _ (List.mem_of_getElem? hi)
  have hT := Tp_ne bk
  obtain ⟨sp, hrow⟩ := h.mem.row
  exact ⟨⟨h1, h.nd, h.mem, Blk.ne h1 hrow hT.1, Blk.ne h.nd.c hrow (by decide), Blk.ne h.nd.c h1 hT.2.2.symm, Blk.ne h.mem.hd h1 hT.2.1.symm, h3.1, h3.2, h4.1, h4.2⟩, h2⟩
theorem KO.step (h : KO W w nb B t b g c ws pl) (hb : Below w.heap.size w w') : KO W w' nb B t b g c ws pl :=
  ⟨h.nd.below hb, h.mem.below hb, fun p hp => ⟨Blk.keep (h.run p hp).1 (Ch.of_below hb (fun _ => False)) (fun e => e), (h.run p hp).2⟩, h.dif, h.below.trans (hb.mono h.below.size), h.gW, h.bW, h.nW⟩
/-- cells outside of the arena and the programs change -/
theorem KO.keep {F : Nat → Prop} (h : KO W w nb B t b g c ws pl) (hc : Ch F w w') (hF : ∀ j, j < w.heap.size → F j → W.heap.size ≤ j) (h1 : ¬ F nb) (h2 : ¬ F b) (h3 : ¬ F g) (h4 : ∀ p, some p ∈ pl → ¬ F p.1) : KO W w' nb B t b g c ws pl :=
  ⟨h.nd.keep hc h1, h.mem.keep hc h2 h3, fun p hp => ⟨Blk.keep (h.run p hp).1 hc (h4 p hp), (h.run p hp).2⟩, h.dif, h.below.trans (hc.below hF h.below.size), h.gW, h.bW, h.nW⟩
/-- a block that holds neither words nor a program -/
theorem KO.apart (h : KO W w nb B t b g c ws pl) {k : Nat} {T : TypeId} {cs : List Value} (hk : Blk w k T cs) (hT : T ≠ 22 ∧ T ≠ 101 ∧ T ≠ 62 ∧ T ≠ 67 ∧ T ≠ 68) : nb ≠ k ∧ b ≠ k ∧ g ≠ k ∧ ∀ p, some p ∈ pl → p.1 ≠ k := by
  obtain ⟨sp, hrow⟩ := h.mem.row
  refine ⟨Blk.ne h.nd.c hk hT.2.2.1.symm, Blk.ne h.mem.hd hk hT.2.1.symm, Blk.ne hrow hk hT.1.symm, fun p hp => Blk.ne (h.run p hp).1 hk ?_⟩
  obtain ⟨r, bk, x⟩ := p
  cases bk
  · exact hT.2.2.2.1.symm
  · exact hT.2.2.2.2.symm
/-- a store into a block that holds neither words nor a program -/
theorem KO.store (h : KO W w nb B t b g c ws pl) {k : Nat} {T : TypeId} {cs : List Value} (hk : Blk w k T cs) (hW : W.heap.size ≤ k) (i : Nat) (u : Value) (hT : T ≠ 22 ∧ T ≠ 101 ∧ T ≠ 62 ∧ T ≠ 67 ∧ T ≠ 68) : KO W (w.setCell ⟨k, i, none⟩ u) nb B t b g c ws pl := by
  obtain ⟨h1, h2, h3, h4⟩ := h.apart hk hT
  exact h.keep ((Ch.refl (fun j => j = k) w).setCell (p := ⟨k, i, none⟩) (.inl rfl) u) (fun j _ e => e ▸ hW) h1 h2 h3 h4
theorem mem_set {α : Type} {l : List α} {i : Nat} {a p : α} (hp : p ∈ l.set i a) : p = a ∨ ∃ k, k ≠ i ∧ l[k]? = some p := by
  obtain ⟨k, hk⟩ := List.mem_iff_getElem?.1 hp
  by_cases hik : i = k
  · subst hik
    rw [List.getElem?_set] at hk
    simp at hk
    exact .inl hk.2.symm
  · rw [List.getElem?_set_ne hik] at hk
    exact .inr ⟨k, fun e => hik e.symm, hk⟩
theorem KO.difSet (h : KO W w nb B t b g c ws pl) (i : Nat) (v : Option (Nat × Bool × Rn)) (hv : ∀ p, v = some p → ∀ j q, j ≠ i → pl[j]? = some (some q) → p.1 ≠ q.1) :
    ∀ (k j : Nat) (p q : Nat × Bool × Rn), (pl.set i v)[k]? = some (some p) → (pl.set i v)[j]? = some (some q) → k ≠ j → p.1 ≠ q.1 := fun k j p q hp hq hkj => by
  rw [List.getElem?_set] at hp hq
  split at hp <;> split at hq
  · omega
  · rename_i h1 h2
    split at hp
    · injection hp with hp
      exact hv p hp j q (fun e => h2 e.symm) hq
    · cases hp
  · rename_i h1 h2
    split at hq
    · injection hq with hq
      exact (hv q hq k p (fun e => h1 e.symm) hp).symm
    · cases hq
  · exact h.dif _ _ _ _ hp hq hkj
theorem KO.turn (h : KO W w nb B t b g c ws pl) {i : Nat} (hi : pl[i]? = some (some (r, bk, x))) (hs : Sat w' bk r nb b g c B t x' ws') (hc : Ch (fun j => j = r ∨ j = g) w w') : KO W w' nb B t b g c ws' (pl.set i (some (r, bk, x'))) := by
  have hr := (h.run _ (List.mem_of_getElem? hi)).2.2.2.2
  refine ⟨hs.s.nd, hs.s.mem, fun p hp => ?_, h.difSet i _ (fun p hp j q hj hq => ?_), h.below.trans (hc.below (fun j _ e => ?_) h.below.size), h.gW, h.bW, h.nW⟩
  · rcases mem_set hp with e | ⟨k, hki, hk⟩
    · injection e with e
      subst e
      exact ⟨hs.s.run, hs.p, ⟨hs.s.n0, hs.s.n1⟩, ⟨hs.s.o0, hs.s.o1⟩, hr⟩
    · have hm := h.run _ (List.mem_of_getElem? hk)
      have hT := Tp_ne p.2.1
      obtain ⟨sp, hrow⟩ := h.mem.row
      refine ⟨Blk.keep hm.1 hc ?_, hm.2⟩
      rintro (e | e)
      · exact h.dif _ _ _ _ hi hk (fun e => hki e.symm) e.symm
      · exact Blk.ne hm.1 hrow hT.1 e
  · injection hp with hp
    subst hp
    exact (h.dif _ _ _ _ hi hq (fun e => hj e.symm) : (r, bk, x).1 ≠ q.1)
  · rcases e with rfl | rfl
    · exact hr
    · exact h.gW
theorem KO.onP (h : KO W w nb B t b g c ws pl) {i : Nat} (hi : pl[i]? = some (some (r, bk, x))) (hc : Calls Try.prog f args w (SaP w bk r nb b g c B t x' ws' v)) :
    Calls Try.prog f args w fun e w' => e = .returned v ∧ KO W w' nb B t b g c ws' (pl.set i (some (r, bk, x'))) ∧ Ch (fun j => j = r ∨ j = g) w w' :=
  hc.mono fun _ _ ⟨h1, h2, h3⟩ => ⟨h1, h.turn hi h2 h3, h3⟩
theorem KO.ofM (h : KO W w nb B t b g c ws pl) (hm : MemAt w' b g c ws') (h3 : Ch (fun j => j = g) w w') : KO W w' nb B t b g c ws' pl := by
  have hne : ∀ p, some p ∈ pl → p.1 ≠ g := fun p hp => by
    obtain ⟨sp, hrow⟩ := h.mem.row
    exact Blk.ne (h.run p hp).1 hrow (Tp_ne _).1
  have hng : nb ≠ g := by
    obtain ⟨sp, hrow⟩ := h.mem.row
    exact Blk.ne h.nd.c hrow (by decide)
  exact ⟨h.nd.keep h3 hng, hm, fun p hp => ⟨Blk.keep (h.run p hp).1 h3 (hne p hp), (h.run p hp).2⟩, h.dif, h.below.trans (h3.below (fun j _ e => e ▸ h.gW) h.below.size), h.gW, h.bW, h.nW⟩
theorem KO.clear (h : KO W w nb B t b g c ws pl) (i : Nat) : KO W w nb B t b g c ws (pl.set i none) := by
  refine ⟨h.nd, h.mem, fun p hp => ?_, h.difSet i _ (fun p hp => by cases hp), h.below, h.gW, h.bW, h.nW⟩
  rcases mem_set hp with e | ⟨k, _, hk⟩
  · cases e
  · exact h.run _ (List.mem_of_getElem? hk)
/-- a new program in a place -/
theorem KO.put (h : KO W w nb B t b g c ws pl) (i : Nat) (hb : Below w.heap.size w w') (hr : RnAt w' r nb (Tp bk) x) (hw : w.heap.size ≤ r) (hp : pcOk bk x) (hn : 0 ≤ x.node ∧ x.node < t * 2) (ho : 0 ≤ x.other ∧ x.other ≤ 18446744073709551615) : KO W w' nb B t b g c ws (pl.set i (some (r, bk, x))) := by
  have h' := h.step hb
  have hz := h.below.size
  refine ⟨h'.nd, h'.mem, fun p hp' => ?_, h.difSet i _ (fun p hp j q hj hq => ?_), h'.below, h.gW, h.bW, h.nW⟩
  · rcases mem_set hp' with e | ⟨k, _, hk⟩
    · injection e with e
      subst e
      exact ⟨hr, hp, hn, ho, by show W.heap.size ≤ r; omega⟩
    · exact h'.run _ (List.mem_of_getElem? hk)
  · injection hp with hp
    subst hp
    have := (h.run q (List.mem_of_getElem? hq)).1.lt
    show r ≠ q.1
    omega
end

/-! ### a list of bools -/
theorem some_ok (hb n : Nat) (hl : List Bool) (w : World) (h : Blk w hb 4 (hl.map Value.bool)) (hn : hl.length = n) (hm : n ≤ 1000) :
    Calls Try.prog 18 #[.slice (some ⟨hb, 0, none⟩) n n] w fun e w' => e = .returned (.bool (hl.any id)) ∧ w = w' := by
  go_enter Try.func18, Try.ntmps18
  go_wp2
  go_loop [7] (fun v => ∃ k : Nat, v = .int .i64 k ∧ k ≤ n ∧ ∀ j, j < k → hl[j]? = some false) (fun v => n - (intOf v).toNat)
  case atStart => exact ⟨0, rfl, by omega, fun j hj => by omega⟩
  case round =>
    obtain ⟨k, rfl, hk, hj⟩ := hrel
    have HJ := Lib.hid hj
    clear hj
    by_cases hlt : k < n
    · have hx := List.getElem?_eq_getElem (show k < hl.length by omega)
      generalize hl[k]'(by omega) = y at hx
      have hc : w.cell? ⟨hb, k, none⟩ = some (.bool y) := by rw [h.cell, List.getElem?_map, hx]; rfl
      have HX := Lib.hid hx
      clear hx
      have i1 : (0 : Int) ≤ k := Int.natCast_nonneg _
      have i2 : (k : Int) < n := by omega
      cases y
      · go_wp2
        go_round
        case rel => exact ⟨k + 1, by go_num, by omega, fun j hj => by
          by_cases e : j = k
          · rw [e]; exact HX.out
          · exact HJ.out j (by omega)⟩
        case measure => simp [intOf]; omega
      · have HA : Hid (hl.any id = true) := (show hl.any id = true from List.any_eq_true.2 ⟨true, List.mem_of_getElem? HX.out, rfl⟩)
        go_wp2
        go_ret
        exact ⟨by rw [HA.out]; rfl, rfl⟩
    · obtain rfl : k = n := by omega
      have HA : Hid (hl.any id = false) := (show hl.any id = false from by
        rw [List.any_eq_false]
        intro a ha
        obtain ⟨j, hj⟩ := List.mem_iff_getElem?.1 ha
        have := HJ.out j (by have := (List.getElem?_eq_some_iff.1 hj).1; omega)
        rw [hj] at this
        injection this with this
        simp [this])
      go_wp2
      go_ret
      exact ⟨by rw [HA.out]; rfl, rfl⟩

/-! ### a queue -/
def qV (q : List Nat) : List Value := q.map fun (k : Nat) => Value.int .i64 (k : Int)
structure QAt (W w : World) (v : Value) (q : List Nat) : Prop where
  ex : (v = .slice none 0 0 ∧ q = []) ∨ ∃ g o c cur, v = .slice (some ⟨g, o, none⟩) q.length c ∧ Blk w g 3 cur ∧ q.length ≤ c ∧ o + c ≤ cur.length ∧ c ≤ 9223372036854775807 ∧ W.heap.size ≤ g ∧ ∀ j, j < q.length → cur[o + j]? = (qV q)[j]?
section
variable {W w w' : World} {v : Value} {q : List Nat}
theorem QAt.keep {F : Nat → Prop} (h : QAt W w v q) (hc : Ch F w w') (hF : ∀ k cs, Blk w k 3 cs → W.heap.size ≤ k → ¬ F k) : QAt W w' v q := by
  refine ⟨?_⟩
  rcases h.ex with h | ⟨g, o, c, cur, h1, h2, h3, h4, h5, h6, h7⟩
  · exact .inl h
  · exact .inr ⟨g, o, c, cur, h1, h2.keep hc (hF g cur h2 h6), h3, h4, h5, h6, h7⟩
theorem QAt.below (h : QAt W w v q) (hb : Below w.heap.size w w') : QAt W w' v q := h.keep (Ch.of_below hb (fun _ => False)) (fun _ _ _ _ e => e)
theorem QAt.tail {k c : Nat} {A : Option Addr} (h : QAt W w (.slice A (k + 1) c) q) : ∃ g o, A = some ⟨g, o, none⟩ ∧ k + 1 ≤ c := by
  rcases h.ex with ⟨h, _⟩ | ⟨g, o, c', cur, h1, h2, h3, h4, h5, h6, h7⟩
  · cases h
  · injection h1 with e1 e2 e3
    exact ⟨g, o, e1, by omega⟩
theorem QAt.of_own {n : Nat} (h : w.ownsRow W.heap.size 3 1 v n (qV q)) (hn : q.length = n) : QAt W w v q := by
  subst hn
  refine ⟨?_⟩
  rcases h.2 with ⟨h1, h2⟩ | ⟨g, cap, cur, hv, hb, hh, h1, h2, h3, h4⟩
  · have : q = [] := by simpa [qV] using h2
    subst this
    exact .inl ⟨h1, rfl⟩
  · refine .inr ⟨g, 0, cap, cur.toList, hv, by unfold Blk; simpa using hh, h1, by simp; omega, by unfold maxLen at h2; omega, hb, fun j hj => ?_⟩
    rw [← h4, List.getElem?_take, if_pos (by omega), Nat.zero_add]
theorem run_append_q (h : QAt W w v q) (hW : W.heap.size ≤ w.heap.size) (k : Nat) (hq : q.length ≤ 1000) (nb : Nat) (hn : w.cell? ⟨nb, 0, none⟩ = some (.int .i64 k)) :
    ∃ v' w', (Builtin.append_ #[52, 52] 52 #[v, .slice (some ⟨nb, 0, none⟩) 1 1]).run Try.prog w = .ok v' w' ∧ QAt W w' v' (q ++ [k]) ∧ Ch (fun j => ∃ cs, Blk w j 3 cs ∧ W.heap.size ≤ j) w w' := by
  have hinfo : (Try.prog.info? 3).map (fun i => (i.zero, i.size, i.bytes)) = some (some (.int .i64 0), 1, 8) := by kernel_rfl
  obtain ⟨i0, hi0, hz0, hz1, hz2⟩ := info_parts hinfo
  have hnew : ∀ j u, [Value.int .i64 k][j]? = some u → w.cell? ((⟨nb, 0, none⟩ : Addr).add j) = some u := fun j u hj => by
    cases j with
    | zero => simp at hj; subst hj; simpa [Addr.add] using hn
    | succ j => simp at hj
  rcases h.ex with ⟨rfl, rfl⟩ | ⟨g, o, c, cur, rfl, h2, h3, h4, h5, h6, h7⟩
  · obtain ⟨v', w', hrun, h2, h3, _, _⟩ := run_append_own_at (P := Try.prog) w w.heap.size 52 52 3 i0 _ 1 8 Try.underlying52 hi0 hz0 hz1 hz2 rfl (by omega) (.slice none 0 0) 0 [] (own_none _ _ _ _) ⟨nb, 0, none⟩ 1 1 [.int .i64 k] rfl hnew (by simp [Value.oneCell']) (by unfold maxLen; omega) (by omega) (Nat.le_refl _)
    refine ⟨v', w', hrun, ?_, (Ch.of_grown h3).mono (fun j _ e => by simp [Value.ownBlock] at e)⟩
    have h8 : w'.ownsRow W.heap.size 3 1 v' 1 (qV [k]) := by
      refine ⟨h2.1, ?_⟩
      rcases h2.2 with ⟨_, e⟩ | ⟨g, cap, cur, e1, e2, e3⟩
      · cases e
      · exact .inr ⟨g, cap, cur, e1, Nat.le_trans hW e2, e3⟩
    exact QAt.of_own h8 rfl
  · by_cases hr : q.length + 1 ≤ c
    · have hlt : o + q.length < cur.length := by omega
      have hrun := run_append_room_cells (P := Try.prog) w 52 52 3 i0 Try.underlying52 hi0 g o q.length c ⟨nb, 0, none⟩ 1 1 [.int .i64 k] (by rw [hz1]; rfl) hnew (by simp [Value.oneCell']) hr (fun j hj => by
        have : j = 0 := by simp at hj; omega
        subst this
        rw [hz1, h2.cell, List.getElem?_eq_getElem (by omega)]
        rfl) (fun j hj => h2.frozen _)
      refine ⟨_, _, hrun, ?_, ?_⟩
      · rw [hz1, Nat.mul_one]
        refine ⟨.inr ⟨g, o, c, _, by rw [List.length_append]; rfl, h2.set (o + q.length) _, by rw [List.length_append]; exact hr, by rw [List.length_set]; exact h4, h5, h6, fun j hj => ?_⟩⟩
        rw [List.length_append] at hj
        simp at hj
        by_cases e : j = q.length
        · subst e
          rw [List.getElem?_set_self (by omega)]
          simp [qV]
        · rw [List.getElem?_set_ne (by omega), h7 j (by omega)]
          simp only [qV, List.map_append]
          rw [List.getElem?_append_left (by simp; omega)]
      · exact (Ch.refl _ w).setCell (.inl ⟨cur, h2, h6⟩) _
    · obtain ⟨v', w', hrun, r1, r2⟩ := run_append_arg_grows (P := Try.prog) w 52 52 3 i0 _ 1 8 Try.underlying52 hi0 hz0 hz1 hz2 rfl (by omega) ⟨g, o, none⟩ q.length c (qV q) (by simp [qV]) (fun j u hj => by
        have hjl : j < q.length := by have := (List.getElem?_eq_some_iff.1 hj).1; simpa [qV] using this
        rw [Addr.add_lit, h2.cell, h7 j hjl]
        exact hj) ⟨nb, 0, none⟩ 1 1 [.int .i64 k] rfl hnew (by omega) (by unfold maxLen; omega) (by omega)
      refine ⟨v', w', hrun, ?_, (Ch.of_grown r2).mono (fun j _ e => by cases e)⟩
      have h8 : w'.ownsRow W.heap.size 3 1 v' (q.length + 1) (qV (q ++ [k])) := by
        rw [show qV (q ++ [k]) = qV q ++ [.int .i64 k] by simp [qV]]
        refine ⟨r1.1, ?_⟩
        rcases r1.2 with ⟨_, e⟩ | ⟨g, cap, cur, e1, e2, e3⟩
        · simp at e
        · exact .inr ⟨g, cap, cur, e1, Nat.le_trans hW e2, e3⟩
      exact QAt.of_own h8 (by simp)
end
theorem wpList_append_q {W : World} (w : World) {ops : Array Oper} {rest : List Oper} {o : Oper} {a : Act} {Q : Exit → Act → World → Prop} (hgd : o.guard = none) (s x : Operand)
    (ho : o.op = .call { callee := .builtin .append, args := #[s, x], argTypes := #[52, 52] }) (hty : o.type = 52) {v : Value} {q : List Nat} (hs : a.eval s = v) (h : QAt W w v q) (hW : W.heap.size ≤ w.heap.size) (k : Nat) (hq : q.length ≤ 1000) (nb : Nat)
    (hx : a.eval x = .slice (some ⟨nb, 0, none⟩) 1 1) (hn : w.cell? ⟨nb, 0, none⟩ = some (.int .i64 k))
    (hk : ∀ v' w', QAt W w' v' (q ++ [k]) → Ch (fun j => ∃ cs, Blk w j 3 cs ∧ W.heap.size ≤ j) w w' → wpList Try.prog ops Q rest (a.put o.dst v') w') : wpList Try.prog ops Q (o :: rest) a w := by
  refine wpList_plain hgd fun K' hK' => ?_
  obtain ⟨v', w', hrun, h2, h3⟩ := run_append_q h hW k hq nb hn
  unfold Oper.wp
  simp [execOp, ho, hty, resolve, invoke, builtin, hs, hx, hrun, Result.andThen]
  exact hK' _ _ (hk v' w' h2 h3)
end Go.Proofs.Ytmlhdcpahfgckaa
