/-
  What stands at a round's head of McsPlays: programs, the reference's programs side by side in a row, both words.
-/
import Derived.Test.YtmlhdcpahfgckaaRMcs5
import Derived.Test.YtmlhdcpahfgckaaMcsC
import Derived.Deep.MidRow
namespace Go.Proofs.Ytmlhdcpahfgckaa
open Go.RowKit

theorem range_keep {F : Nat → Prop} {w w' : World} {b o : Nat} {cs : List Value} (h : w.rangeAt b o cs) (hc : Ch F w w') (hf : ¬ F b) : w'.rangeAt b o cs := fun j v hv => hc.keeps (h j v hv) hf
theorem setCells_ch (g : Nat) : ∀ (vs : List Value) (o : Nat) (w : World), Ch (fun j => j = g) w (w.setCells g o vs)
  | [], _, w => Ch.refl _ w
  | v :: r, o, w => ((Ch.refl (fun j => j = g) w).setCell (p := ⟨g, o, none⟩) (.inl rfl) v).trans (setCells_ch g r (o + 1) _) (fun _ _ e => e)
theorem blk_setCells {g : Nat} {T : TypeId} : ∀ (vs : List Value) (o : Nat) (w : World) (cs : List Value), Blk w g T cs → ∃ cs', cs'.length = cs.length ∧ Blk (w.setCells g o vs) g T cs'
  | [], _, _, cs, h => ⟨cs, rfl, h⟩
  | v :: r, o, _, cs, h => by
    obtain ⟨cs', h1, h2⟩ := blk_setCells r (o + 1) _ _ (h.set o v)
    exact ⟨cs', by rw [h1, List.length_set], h2⟩
theorem there_blk {w : World} {g : Nat} {T : TypeId} {cs : List Value} (h : Blk w g T cs) (o n : Nat) (hl : o + n ≤ cs.length) : w.there g o n := fun j hj =>
  ⟨by rw [h.cell, List.getElem?_eq_getElem (by omega)]; rfl, h.frozen _⟩
/-- a block that holds no words -/
def Apart (g pb rb hb vb : Nat) (pl : List (Option (Nat × Bool × Rn))) (q : Nat) : Prop := q ≠ g ∧ q ≠ pb ∧ q ≠ rb ∧ q ≠ hb ∧ q ≠ vb ∧ ∀ p, some p ∈ pl → q ≠ p.1
structure PX (W wr : World) (nb b g pb rb hb vb n : Nat) (A : Option Addr) (c7 : Nat) (pl : List (Option (Nat × Bool × Rn))) (pv hv : List Value) (ws : List Int) (Y : Nat → Prop) : Prop where
  ko : KO W wr nb 1 n b g (1 + 6 * n) ws pl
  fp : Blk wr pb 33 pv
  fh : Blk wr hb 4 hv
  fr : ∃ cs, Blk wr rb 46 cs ∧ cs.length = n * 8
  fv : Blk wr vb 41 [.int .i64 1, .int .i64 n]
  fy : ∀ (s r : Nat) (bk : Bool) (x : Rn), Y s → pl[s]? = some (some (r, bk, x)) → ∃ y, Eqv x y ∧ wr.rangeAt rb (s * 8) (rc8 1 n bk y)
  fw : Rd (Apart g pb rb hb vb pl) wr A (u64s ws)
  wl : ws.length = 1 + 6 * n
  wc : 1 + 6 * n ≤ c7 ∧ c7 ≤ 9223372036854775807 ∧ (A = none → c7 = 0)
  lp : pl.length = n
  pW : W.heap.size ≤ pb
  rW : W.heap.size ≤ rb
  hW : W.heap.size ≤ hb
section
variable {W wr w' : World} {nb b g pb rb hb vb n c7 : Nat} {A : Option Addr} {pl : List (Option (Nat × Bool × Rn))} {pv hv : List Value} {ws ws' : List Int} {Y : Nat → Prop} {t r : Nat} {bk : Bool} {x x' y : Rn}
theorem PX.step (h : PX W wr nb b g pb rb hb vb n A c7 pl pv hv ws Y) (hb' : Below wr.heap.size wr w') : PX W w' nb b g pb rb hb vb n A c7 pl pv hv ws Y := by
  have hc := Ch.of_below hb' (fun _ => False)
  obtain ⟨cs, h1, h2⟩ := h.fr
  refine ⟨h.ko.step hb', h.fp.keep hc (fun e => e), h.fh.keep hc (fun e => e), ⟨cs, h1.keep hc (fun e => e), h2⟩, h.fv.keep hc (fun e => e), fun s r bk x hs hp => ?_, h.fw.keep hc (fun _ _ _ e => e), h.wl, h.wc, h.lp, h.pW, h.rW, h.hW⟩
  obtain ⟨y, e1, e2⟩ := h.fy s r bk x hs hp
  exact ⟨y, e1, range_keep e2 hc (fun e => e)⟩
theorem PX.putP (h : PX W wr nb b g pb rb hb vb n A c7 pl pv hv ws Y) (t : Nat) (v : Value) : PX W (wr.setCell ⟨pb, t, none⟩ v) nb b g pb rb hb vb n A c7 pl (pv.set t v) hv ws Y := by
  have hc := (Ch.refl (fun j => j = pb) wr).setCell (p := ⟨pb, t, none⟩) (.inl rfl) v
  obtain ⟨cs, h1, h2⟩ := h.fr
  refine ⟨h.ko.store h.fp h.pW t v (by decide), h.fp.set t v, h.fh.keep hc (Blk.ne h.fh h.fp (by decide)), ⟨cs, h1.keep hc (Blk.ne h1 h.fp (by decide)), h2⟩, h.fv.keep hc (Blk.ne h.fv h.fp (by decide)), fun s r bk x hs hp => ?_, h.fw.keep hc (fun _ _ k e => k.2.1 e), h.wl, h.wc, h.lp, h.pW, h.rW, h.hW⟩
  obtain ⟨y, e1, e2⟩ := h.fy s r bk x hs hp
  exact ⟨y, e1, range_keep e2 hc (Blk.ne h1 h.fp (by decide))⟩
theorem PX.putH (h : PX W wr nb b g pb rb hb vb n A c7 pl pv hv ws Y) (t : Nat) (v : Value) : PX W (wr.setCell ⟨hb, t, none⟩ v) nb b g pb rb hb vb n A c7 pl pv (hv.set t v) ws Y := by
  have hc := (Ch.refl (fun j => j = hb) wr).setCell (p := ⟨hb, t, none⟩) (.inl rfl) v
  obtain ⟨cs, h1, h2⟩ := h.fr
  refine ⟨h.ko.store h.fh h.hW t v (by decide), h.fp.keep hc (Blk.ne h.fp h.fh (by decide)), h.fh.set t v, ⟨cs, h1.keep hc (Blk.ne h1 h.fh (by decide)), h2⟩, h.fv.keep hc (Blk.ne h.fv h.fh (by decide)), fun s r bk x hs hp => ?_, h.fw.keep hc (fun _ _ k e => k.2.2.2.1 e), h.wl, h.wc, h.lp, h.pW, h.rW, h.hW⟩
  obtain ⟨y, e1, e2⟩ := h.fy s r bk x hs hp
  exact ⟨y, e1, range_keep e2 hc (Blk.ne h1 h.fh (by decide))⟩
theorem KO.stores (g' : Nat) {T : TypeId} (hT : T ≠ 22 ∧ T ≠ 101 ∧ T ≠ 62 ∧ T ≠ 67 ∧ T ≠ 68) (hW : W.heap.size ≤ g') {B tt : Int} {c : Nat} : ∀ (vs : List Value) (o : Nat) (w : World) (cs : List Value), Blk w g' T cs → KO W w nb B tt b g c ws pl → KO W (w.setCells g' o vs) nb B tt b g c ws pl
  | [], _, _, _, _, h => h
  | v :: r, o, _, _, hk, h => KO.stores g' hT hW r (o + 1) _ _ (hk.set o v) (h.store hk hW o v hT)
/-- a thread's program of the reference is stored -/
theorem PX.putR (h : PX W wr nb b g pb rb hb vb n A c7 pl pv hv ws (fun s => s ≠ t)) (ht : t < n) (hp : pl[t]? = some (some (r, bk, x))) (hE : Eqv x y) :
    PX W (wr.setCells rb (t * 8) (rc8 1 n bk y)) nb b g pb rb hb vb n A c7 pl pv hv ws (fun _ => True) := by
  have hc := setCells_ch rb (rc8 1 n bk y) (t * 8) wr
  obtain ⟨cs, h1, h2⟩ := h.fr
  obtain ⟨cs', h3, h4⟩ := blk_setCells (rc8 1 n bk y) (t * 8) wr cs h1
  refine ⟨h.ko.stores rb (by decide) h.rW _ _ _ _ h1, h.fp.keep hc (Blk.ne h.fp h1 (by decide)), h.fh.keep hc (Blk.ne h.fh h1 (by decide)), ⟨cs', h4, h3.trans h2⟩, h.fv.keep hc (Blk.ne h.fv h1 (by decide)), fun s r' bk' x' _ hp' => ?_, h.fw.keep hc (fun _ _ k e => k.2.2.1 e), h.wl, h.wc, h.lp, h.pW, h.rW, h.hW⟩
  by_cases e : s = t
  · subst e
    rw [hp] at hp'
    injection hp' with hp'; injection hp' with hp'; injection hp' with e1 e2; injection e2 with e2 e3
    subst e1 e2 e3
    exact ⟨y, hE, World.rangeAt_setCells_same wr rb (s * 8) _ (there_blk h1 _ _ (by show s * 8 + 8 ≤ cs.length; omega))⟩
  · obtain ⟨y2, e1, e2⟩ := h.fy s r' bk' x' e hp'
    refine ⟨y2, e1, World.rangeAt_setCells_apart e2 rb (t * 8) _ (.inr ?_)⟩
    show s * 8 + 8 ≤ t * 8 ∨ t * 8 + 8 ≤ s * 8
    omega
/-- a new program, ahead of its stores -/
theorem PX.begin (h : PX W wr nb b g pb rb hb vb n A c7 pl pv hv ws (fun _ => True)) (t : Nat) (hb' : Below wr.heap.size wr w') (hr : RnAt w' r nb (Tp bk) x) (hw : wr.heap.size ≤ r) (hp : pcOk bk x) (hn : 0 ≤ x.node ∧ x.node < (n : Int) * 2) (ho : 0 ≤ x.other ∧ x.other ≤ 18446744073709551615) :
    PX W w' nb b g pb rb hb vb n A c7 (pl.set t (some (r, bk, x))) pv hv ws (fun s => s ≠ t) := by
  have h' := h.step hb'
  refine ⟨h.ko.put t hb' hr hw hp hn ho, h'.fp, h'.fh, h'.fr, h'.fv, fun s r' bk' x' hs hp' => ?_, ?_, h.wl, h.wc, by rw [List.length_set]; exact h.lp, h.pW, h.rW, h.hW⟩
  · rw [List.getElem?_set_ne (fun e => hs e.symm)] at hp'
    exact h'.fy s r' bk' x' trivial hp'
  · have hc := Ch.of_below hb' (fun _ => False)
    refine Rd.keep (h.fw.mono (fun q hq k => ?_)) hc (fun _ _ _ e => e)
    obtain ⟨k1, k2, k3, k4, k5, k6⟩ := k
    refine ⟨k1, k2, k3, k4, k5, fun p hp' => ?_⟩
    rcases mem_set hp' with e | ⟨i, _, hi⟩
    · injection e with e
      subst e
      show q ≠ r
      omega
    · exact k6 p (List.mem_of_getElem? hi)
/-- a step of both -/
theorem PX.does {A2 : Option Addr} {c2 : Nat} (h : PX W wr nb b g pb rb hb vb n A c7 pl pv hv ws (fun _ => True)) (hi : pl[t]? = some (some (r, bk, x))) (hs : Sat w' bk r nb b g (1 + 6 * n) 1 n x' ws') (hr : Rd (fun q => Apart g pb rb hb vb pl q ∨ wr.heap.size ≤ q) w' A2 (u64s ws'))
    (h1 : 1 + 6 * n ≤ c2) (h2 : c2 ≤ 9223372036854775807) (h3 : A2 = none → c2 = 0) (hl : ws'.length = 1 + 6 * n) (hc : Ch (fun j => j = r ∨ j = g) wr w') :
    PX W w' nb b g pb rb hb vb n A2 c2 (pl.set t (some (r, bk, x'))) pv hv ws' (fun s => s ≠ t) := by
  obtain ⟨sp, hrow⟩ := h.ko.mem.row
  have hrn := h.ko.run _ (List.mem_of_getElem? hi)
  have hT : ∀ T : TypeId, T ≠ 22 → T ≠ 67 → T ≠ 68 → ∀ k cs, Blk wr k T cs → ¬ (k = r ∨ k = g) := fun T t1 t2 t3 k cs hk => by
    rintro (e | e)
    · exact Blk.ne hk hrn.1 (by cases bk <;> assumption) e
    · exact Blk.ne hk hrow t1 e
  obtain ⟨cs, f1, f2⟩ := h.fr
  refine ⟨h.ko.turn hi hs hc, h.fp.keep hc (hT _ (by decide) (by decide) (by decide) _ _ h.fp), h.fh.keep hc (hT _ (by decide) (by decide) (by decide) _ _ h.fh), ⟨cs, f1.keep hc (hT _ (by decide) (by decide) (by decide) _ _ f1), f2⟩, h.fv.keep hc (hT _ (by decide) (by decide) (by decide) _ _ h.fv), fun s r' bk' x' hs' hp' => ?_, hr.mono (fun q _ k => ?_), hl, ⟨h1, h2, h3⟩, by rw [List.length_set]; exact h.lp, h.pW, h.rW, h.hW⟩
  · rw [List.getElem?_set_ne (fun e => hs' e.symm)] at hp'
    obtain ⟨y, e1, e2⟩ := h.fy s r' bk' x' trivial hp'
    exact ⟨y, e1, range_keep e2 hc (hT _ (by decide) (by decide) (by decide) _ _ f1)⟩
  · have hmem : ∀ p, some p ∈ pl.set t (some (r, bk, x')) → ∃ p', some p' ∈ pl ∧ p'.1 = p.1 := fun p hp => by
      rcases mem_set hp with e | ⟨i, _, hi'⟩
      · injection e with e
        exact ⟨_, List.mem_of_getElem? hi, by rw [e]⟩
      · exact ⟨p, List.mem_of_getElem? hi', rfl⟩
    rcases k with ⟨k1, k2, k3, k4, k5, k6⟩ | k
    · refine ⟨k1, k2, k3, k4, k5, fun p hp => ?_⟩
      obtain ⟨p', m1, m2⟩ := hmem p hp
      rw [← m2]; exact k6 p' m1
    · have a1 := hrow.lt
      have a2 := h.fp.lt
      have a3 := f1.lt
      have a4 := h.fh.lt
      have a5 := h.fv.lt
      refine ⟨by omega, by omega, by omega, by omega, by omega, fun p hp => ?_⟩
      obtain ⟨p', m1, m2⟩ := hmem p hp
      have := (h.ko.run p' m1).1.lt
      omega
/-- the program of a thread has ended: its place holds none -/
theorem PX.clear (h : PX W wr nb b g pb rb hb vb n A c7 pl pv hv ws Y) (t : Nat) : PX W wr nb b g pb rb hb vb n A c7 (pl.set t none) pv hv ws Y := by
  refine ⟨h.ko.clear t, h.fp, h.fh, h.fr, h.fv, fun s r bk x hs hp => ?_, h.fw.mono (fun q _ k => ?_), h.wl, h.wc, by rw [List.length_set]; exact h.lp, h.pW, h.rW, h.hW⟩
  · rw [List.getElem?_set] at hp
    split at hp
    · split at hp <;> cases hp
    · exact h.fy s r bk x hs hp
  · obtain ⟨k1, k2, k3, k4, k5, k6⟩ := k
    refine ⟨k1, k2, k3, k4, k5, fun p hp => ?_⟩
    rcases mem_set hp with e | ⟨i, _, hi⟩
    · cases e
    · exact k6 p (List.mem_of_getElem? hi)
end
end Go.Proofs.Ytmlhdcpahfgckaa
