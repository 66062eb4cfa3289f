/-
  Memories behind an interface: what a step of a program may do with one, whichever it is: an arena, an arena that allows one access, or one that is looked at.
-/
import Derived.Test.YtmbofohdjdipdaaTOnce
import Derived.Test.YtmbofohdjdipdaaThPure
namespace Go.Proofs.Ytmbofohdjdipdaa
open Go.RowKit

/-- what a memory is: its dynamic type and pointer, its methods, where it lies, what an access makes of it, and returns -/
structure Mif (σ : Type) where
  T : TypeId
  p : Value
  fl : FuncId
  fs : FuncId
  fw : FuncId
  fc : FuncId
  At : World → σ → Prop
  own : Nat → Prop
  nx : σ → Int → Int → Int → Int → σ
  B : σ → Int → Int → Int
  E : σ → Int → Int → Int
abbrev Mif.v {σ : Type} (m : Mif σ) : Value := .iface m.T m.p
/-- the types of the blocks in which a memory lies -/
def memTy (t : TypeId) : Prop := t = 158 ∨ t = 33 ∨ t = 163 ∨ t = 154
def MifP {σ : Type} (m : Mif σ) (w : World) (s : σ) (v : Value) (e : Ending) (w' : World) : Prop := e = .returned v ∧ m.At w' s ∧ Ch m.own w w'
structure Mif.Ok {σ : Type} (m : Mif σ) : Prop where
  nl : ∀ w, (nilAhead 285 m.T m.p "Load").run Try.prog w = .ok (some false) w
  ml : ∀ w, (method 285 m.T m.p "Load").run Try.prog w = .ok (m.fl, m.p) w
  ns : ∀ w, (nilAhead 285 m.T m.p "Store").run Try.prog w = .ok (some false) w
  ms : ∀ w, (method 285 m.T m.p "Store").run Try.prog w = .ok (m.fs, m.p) w
  nw : ∀ w, (nilAhead 285 m.T m.p "Swap").run Try.prog w = .ok (some false) w
  mw : ∀ w, (method 285 m.T m.p "Swap").run Try.prog w = .ok (m.fw, m.p) w
  nc : ∀ w, (nilAhead 285 m.T m.p "CAS").run Try.prog w = .ok (some false) w
  mc : ∀ w, (method 285 m.T m.p "CAS").run Try.prog w = .ok (m.fc, m.p) w
  kl : ∀ args w, (callFunc m.fl args).run Try.prog w = .ok (.enter m.fl args) w
  ks : ∀ args w, (callFunc m.fs args).run Try.prog w = .ok (.enter m.fs args) w
  kw : ∀ args w, (callFunc m.fw args).run Try.prog w = .ok (.enter m.fw args) w
  kc : ∀ args w, (callFunc m.fc args).run Try.prog w = .ok (.enter m.fc args) w
  cl : ∀ w s i, m.At w s → Calls Try.prog m.fl #[m.p, .int .i64 i] w (MifP m w (m.nx s 1 i 0 0) (.tuple #[.int .u64 (m.B s 1 i), .int .i64 (m.E s 1 i)]))
  cs : ∀ w s i x, m.At w s → U64 x → Calls Try.prog m.fs #[m.p, .int .i64 i, .int .u64 x] w (MifP m w (m.nx s 2 i 0 x) (.int .i64 (m.E s 2 i)))
  cw : ∀ w s i x, m.At w s → U64 x → Calls Try.prog m.fw #[m.p, .int .i64 i, .int .u64 x] w (MifP m w (m.nx s 4 i 0 x) (.tuple #[.int .u64 (m.B s 4 i), .int .i64 (m.E s 4 i)]))
  cc : ∀ w s i o x, m.At w s → U64 x → Calls Try.prog m.fc #[m.p, .int .i64 i, .int .u64 o, .int .u64 x] w (MifP m w (m.nx s 3 i o x) (.tuple #[.bool (m.E s 3 i == 0 && m.B s 3 i == o), .int .i64 (m.E s 3 i)]))
  keep : ∀ w w' s F, m.At w s → Ch F w w' → (∀ k, m.own k → ¬ F k) → m.At w' s
  lt : ∀ w s k, m.At w s → m.own k → k < w.heap.size
  ty : ∀ w s k, m.At w s → m.own k → ∃ t cs, Blk w k t cs ∧ memTy t
  bu : ∀ w s k i, m.At w s → U64 (m.B s k i)
section
variable {σ : Type} {m : Mif σ} {w w' : World} {s : σ}
theorem Mif.Ok.below (h : m.Ok) (ha : m.At w s) (hb : Below w.heap.size w w') : m.At w' s := h.keep _ _ _ _ ha (Ch.of_below hb (fun _ => False)) (fun _ _ e => e)
/-- a block of another type is none of the memory's -/
theorem Mif.Ok.not_own (h : m.Ok) (ha : m.At w s) {r : Nat} {T : TypeId} {cs : List Value} (hr : Blk w r T cs) (hT : ¬ memTy T) : ¬ m.own r := fun ho => by
  obtain ⟨t, cs', hb, ht⟩ := h.ty _ _ _ ha ho
  exact (Blk.ne hr hb (fun e => hT (e ▸ ht))) rfl
end

/-! ### an arena -/
theorem doB_u (ws : List Int) (k i : Int) (h : ∀ x ∈ ws, U64 x) : U64 (doB ws k i) := by
  unfold doB
  split
  · rw [List.getD_eq_getElem?_getD]
    rcases Nat.lt_or_ge i.toNat ws.length with hl | hl
    · rw [List.getElem?_eq_getElem hl]
      exact h _ (List.getElem_mem hl)
    · rw [List.getElem?_eq_none hl]
      exact ⟨by simp, by simp⟩
  · exact ⟨by omega, by omega⟩
def arenaM (b g c : Nat) : Mif (List Int) where
  T := 26
  p := .pointer (some ⟨b, 0, none⟩)
  fl := 51
  fs := 13
  fw := 100
  fc := 99
  At := fun w ws => MemAt w b g c ws
  own := fun k => k = b ∨ k = g
  nx := fun ws k i bf af => doWs ws k i bf af
  B := doB
  E := doE
theorem arena_ok (b g c : Nat) : (arenaM b g c).Ok where
  nl := fun w => by show (nilAhead 285 26 (.pointer (some ⟨b, 0, none⟩)) "Load").run Try.prog w = _; kernel_rfl
  ml := fun w => by show (method 285 26 (.pointer (some ⟨b, 0, none⟩)) "Load").run Try.prog w = .ok (51, .pointer (some ⟨b, 0, none⟩)) w; kernel_rfl
  ns := fun w => by show (nilAhead 285 26 (.pointer (some ⟨b, 0, none⟩)) "Store").run Try.prog w = _; kernel_rfl
  ms := fun w => by show (method 285 26 (.pointer (some ⟨b, 0, none⟩)) "Store").run Try.prog w = .ok (13, .pointer (some ⟨b, 0, none⟩)) w; kernel_rfl
  nw := fun w => by show (nilAhead 285 26 (.pointer (some ⟨b, 0, none⟩)) "Swap").run Try.prog w = _; kernel_rfl
  mw := fun w => by show (method 285 26 (.pointer (some ⟨b, 0, none⟩)) "Swap").run Try.prog w = .ok (100, .pointer (some ⟨b, 0, none⟩)) w; kernel_rfl
  nc := fun w => by show (nilAhead 285 26 (.pointer (some ⟨b, 0, none⟩)) "CAS").run Try.prog w = _; kernel_rfl
  mc := fun w => by show (method 285 26 (.pointer (some ⟨b, 0, none⟩)) "CAS").run Try.prog w = .ok (99, .pointer (some ⟨b, 0, none⟩)) w; kernel_rfl
  kl := fun args w => by show (callFunc 51 args).run Try.prog w = .ok (.enter 51 args) w; kernel_rfl
  ks := fun args w => by show (callFunc 13 args).run Try.prog w = .ok (.enter 13 args) w; kernel_rfl
  kw := fun args w => by show (callFunc 100 args).run Try.prog w = .ok (.enter 100 args) w; kernel_rfl
  kc := fun args w => by show (callFunc 99 args).run Try.prog w = .ok (.enter 99 args) w; kernel_rfl
  cl := fun w s i h => by
    refine (mload_any b g c s i w h).mono ?_
    rintro e w' ⟨h1, h2, h3⟩
    have : doWs s 1 i 0 0 = s := by unfold doWs; rw [if_neg (by omega)]
    exact ⟨h1, by show MemAt w' b g c (doWs s 1 i 0 0); rw [this]; exact h2, h3.mono (fun _ _ e => .inr e)⟩
  cs := fun w s i x h hx => (mstore_any b g c s i x w h hx).mono fun _ _ ⟨h1, h2, h3⟩ => ⟨h1, h2, h3.mono (fun _ _ e => .inr e)⟩
  cw := fun w s i x h hx => (mswap_any b g c s i x w h hx).mono fun _ _ ⟨h1, h2, h3⟩ => ⟨h1, h2, h3.mono (fun _ _ e => .inr e)⟩
  cc := fun w s i o x h hx => (mcas_any b g c s i o x w h hx).mono fun _ _ ⟨h1, h2, h3⟩ => ⟨h1, h2, h3.mono (fun _ _ e => .inr e)⟩
  keep := fun w w' s F h hc hf => MemAt.keep h hc (hf b (.inl rfl)) (hf g (.inr rfl))
  lt := fun w s k h ho => by rcases ho with rfl | rfl; exact (MemAt.lt h).1; exact (MemAt.lt h).2
  ty := fun w s k h ho => by
    rcases ho with rfl | rfl
    · exact ⟨_, _, MemAt.hd h, .inl rfl⟩
    · obtain ⟨sp, hr⟩ := MemAt.row h
      exact ⟨_, _, hr, .inr (.inl rfl)⟩
  bu := fun w s k i h => doB_u s k i (MemAt.wf h)

/-! ### an arena that allows one access -/
theorem oB_u (ws : List Int) (n : Note) (k i : Int) (h : ∀ x ∈ ws, U64 x) : U64 (oB ws n k i) := by
  unfold oB
  split
  · exact doB_u ws k i h
  · exact ⟨by omega, by omega⟩
def onceM (o b g c : Nat) : Mif (List Int × Note) where
  T := 133
  p := .pointer (some ⟨o, 0, none⟩)
  fl := 108
  fs := 109
  fw := 110
  fc := 106
  At := fun w s => OnAt w o b g c s.1 s.2
  own := fun k => k = b ∨ k = g ∨ k = o
  nx := fun s k i bf af => (oWs s.1 s.2 k i bf af, oN s.1 s.2 k i bf af)
  B := fun s k i => oB s.1 s.2 k i
  E := fun s k i => oE s.1 s.2 k i
theorem once_ok (o b g c : Nat) : (onceM o b g c).Ok where
  nl := fun w => by show (nilAhead 285 133 (.pointer (some ⟨o, 0, none⟩)) "Load").run Try.prog w = _; kernel_rfl
  ml := fun w => by show (method 285 133 (.pointer (some ⟨o, 0, none⟩)) "Load").run Try.prog w = .ok (108, .pointer (some ⟨o, 0, none⟩)) w; kernel_rfl
  ns := fun w => by show (nilAhead 285 133 (.pointer (some ⟨o, 0, none⟩)) "Store").run Try.prog w = _; kernel_rfl
  ms := fun w => by show (method 285 133 (.pointer (some ⟨o, 0, none⟩)) "Store").run Try.prog w = .ok (109, .pointer (some ⟨o, 0, none⟩)) w; kernel_rfl
  nw := fun w => by show (nilAhead 285 133 (.pointer (some ⟨o, 0, none⟩)) "Swap").run Try.prog w = _; kernel_rfl
  mw := fun w => by show (method 285 133 (.pointer (some ⟨o, 0, none⟩)) "Swap").run Try.prog w = .ok (110, .pointer (some ⟨o, 0, none⟩)) w; kernel_rfl
  nc := fun w => by show (nilAhead 285 133 (.pointer (some ⟨o, 0, none⟩)) "CAS").run Try.prog w = _; kernel_rfl
  mc := fun w => by show (method 285 133 (.pointer (some ⟨o, 0, none⟩)) "CAS").run Try.prog w = .ok (106, .pointer (some ⟨o, 0, none⟩)) w; kernel_rfl
  kl := fun args w => by show (callFunc 108 args).run Try.prog w = .ok (.enter 108 args) w; kernel_rfl
  ks := fun args w => by show (callFunc 109 args).run Try.prog w = .ok (.enter 109 args) w; kernel_rfl
  kw := fun args w => by show (callFunc 110 args).run Try.prog w = .ok (.enter 110 args) w; kernel_rfl
  kc := fun args w => by show (callFunc 106 args).run Try.prog w = .ok (.enter 106 args) w; kernel_rfl
  cl := fun w s i h => (oload_any o b g c s.1 s.2 i w h).mono fun _ _ ⟨h1, h2, h3⟩ => ⟨h1, h2, h3.mono (fun _ _ e => .inr e)⟩
  cs := fun w s i x h hx => (ostore_any o b g c s.1 s.2 i x w h hx).mono fun _ _ ⟨h1, h2, h3⟩ => ⟨h1, h2, h3.mono (fun _ _ e => .inr e)⟩
  cw := fun w s i x h hx => (oswap_any o b g c s.1 s.2 i x w h hx).mono fun _ _ ⟨h1, h2, h3⟩ => ⟨h1, h2, h3.mono (fun _ _ e => .inr e)⟩
  cc := fun w s i u x h hx => (ocas_any o b g c s.1 s.2 i u x w h hx).mono fun _ _ ⟨h1, h2, h3⟩ => ⟨h1, h2, h3.mono (fun _ _ e => .inr e)⟩
  keep := fun w w' s F h hc hf => OnAt.keep h hc (hf b (.inl rfl)) (hf g (.inr (.inl rfl))) (hf o (.inr (.inr rfl)))
  lt := fun w s k h ho => by
    rcases ho with rfl | rfl | rfl
    · exact (OnAt.mem h).lt.1
    · exact (OnAt.mem h).lt.2
    · exact Blk.lt (OnAt.once h)
  ty := fun w s k h ho => by
    rcases ho with rfl | rfl | rfl
    · exact ⟨_, _, (OnAt.mem h).hd, .inl rfl⟩
    · obtain ⟨sp, hr⟩ := (OnAt.mem h).row
      exact ⟨_, _, hr, .inr (.inl rfl)⟩
    · exact ⟨_, _, OnAt.once h, .inr (.inr (.inl rfl))⟩
  bu := fun w s k i h => oB_u s.1 s.2 k i (OnAt.mem h).wf

/-! ### an arena that is looked at: the accesses are loads, one at most -/
def PkAt (w : World) (q b g c : Nat) (ws : List Int) (u : Bool) : Prop := MemAt w b g c ws ∧ Blk w q 154 [.pointer (some ⟨b, 0, none⟩), .bool u]
def pkE (ws : List Int) (u : Bool) (i : Int) : Int := if u then 11 else doE ws 1 i
def pkB (ws : List Int) (u : Bool) (i : Int) : Int := if u then 0 else doB ws 1 i
def pkU (ws : List Int) (u : Bool) (i : Int) : Bool := u || doE ws 1 i == 0
theorem PkAt.ne {w : World} {q b g c : Nat} {ws : List Int} {u : Bool} (h : PkAt w q b g c ws u) : b ≠ q ∧ g ≠ q := by
  obtain ⟨sp, hr⟩ := h.1.row
  exact ⟨Blk.ne h.1.hd h.2 (by decide), Blk.ne hr h.2 (by decide)⟩
theorem PkAt.keep {w w' : World} {q b g c : Nat} {ws : List Int} {u : Bool} {F : Nat → Prop} (h : PkAt w q b g c ws u) (hc : Ch F w w') (hb : ¬ F b) (hg : ¬ F g) (hq : ¬ F q) : PkAt w' q b g c ws u :=
  ⟨h.1.keep hc hb hg, h.2.keep hc hq⟩
def PkP (w : World) (q b g c : Nat) (ws : List Int) (u : Bool) (v : Value) (e : Ending) (w' : World) : Prop := e = .returned v ∧ PkAt w' q b g c ws u ∧ Ch (fun k => k = b ∨ k = g ∨ k = q) w w'
theorem pload_any (q b g c : Nat) (ws : List Int) (u : Bool) (i : Int) (w : World) (h : PkAt w q b g c ws u) :
    Calls Try.prog 118 #[.pointer (some ⟨q, 0, none⟩), .int .i64 i] w (PkP w q b g c ws (pkU ws u i) (.tuple #[.int .u64 (pkB ws u i), .int .i64 (pkE ws u i)])) := by
  have c0 : w.cell? ⟨q, 0, none⟩ = some (.pointer (some ⟨b, 0, none⟩)) := h.2.cell 0
  have c1 : w.cell? ⟨q, 1, none⟩ = some (.bool u) := h.2.cell 1
  have hn := h.ne
  cases u
  · have hz : ∀ (e : Bool) (w1 : World), MemAt w1 b g c ws → Ch (fun j => j = g) w w1 → PkP w q b g c ws e (.tuple #[.int .u64 (doB ws 1 i), .int .i64 (doE ws 1 i)]) (.returned (.tuple #[.int .u64 (doB ws 1 i), .int .i64 (doE ws 1 i)])) (w1.setCell ⟨q, 1, none⟩ (.bool e)) := fun e w1 hm hc => by
      have hq := h.2.keep hc (fun e => hn.2 e.symm)
      have hs := hq.set 1 (.bool e)
      have hC := (Ch.refl (fun j => j = q) w1).setCell (p := ⟨q, 1, none⟩) (.inl rfl) (.bool e)
      exact ⟨rfl, ⟨hm.keep hC hn.1 hn.2, hs⟩, (hc.mono (fun _ _ e => .inr (.inl e))).trans hC (fun _ _ e => .inr (.inr e))⟩
    have hU : pkU ws false i = (doE ws 1 i == 0) := rfl
    have hE : pkE ws false i = doE ws 1 i := rfl
    have hB : pkB ws false i = doB ws 1 i := rfl
    rw [hU, hE, hB]
    clear hU hE hB
    have hq := h.2
    have hmm := h.1
    go_enter Try.func118, Try.ntmps118
    go_upto_region 4 with (go_at_call 51; refine (mload_any b g c ws i _ hmm).mono ?_; rintro e w1 ⟨rfl, hm, hc⟩)
    have hq1 := hq.keep hc (fun e => hn.2 e.symm)
    have d0 : w1.cell? ⟨q, 0, none⟩ = some (.pointer (some ⟨b, 0, none⟩)) := hq1.cell 0
    have d1 : w1.cell? ⟨q, 1, none⟩ = some (.bool false) := hq1.cell 1
    have df := hq1.frozen 1
    go_wp2
    go_ret2
    exact hz _ _ hm hc
  · have hP : PkP w q b g c ws (pkU ws true i) (.tuple #[.int .u64 (pkB ws true i), .int .i64 (pkE ws true i)]) (.returned (.tuple #[.int .u64 0, .int .i64 11])) w := ⟨rfl, h, Ch.refl _ _⟩
    have hE : pkE ws true i = 11 := rfl
    have hB : pkB ws true i = 0 := rfl
    have hU : pkU ws true i = true := rfl
    rw [hU, hE, hB] at hP ⊢
    clear hE hB hU
    go_enter Try.func118, Try.ntmps118
    go_wp2
    go_ret2
    exact hP
theorem pstore_any (q b g c : Nat) (ws : List Int) (u : Bool) (i x : Int) (w : World) (h : PkAt w q b g c ws u) :
    Calls Try.prog 119 #[.pointer (some ⟨q, 0, none⟩), .int .i64 i, .int .u64 x] w (PkP w q b g c ws (pkU ws u i) (.int .i64 (pkE ws u i))) := by
  go_enter Try.func119, Try.ntmps119
  go_wp2_with (go_at_call 118; refine (pload_any q b g c ws u i _ h).mono ?_; rintro e w1 ⟨rfl, hm, hc⟩)
  go_ret
  exact ⟨rfl, hm, hc⟩
theorem pswap_any (q b g c : Nat) (ws : List Int) (u : Bool) (i x : Int) (w : World) (h : PkAt w q b g c ws u) :
    Calls Try.prog 120 #[.pointer (some ⟨q, 0, none⟩), .int .i64 i, .int .u64 x] w (PkP w q b g c ws (pkU ws u i) (.tuple #[.int .u64 (pkB ws u i), .int .i64 (pkE ws u i)])) := by
  go_enter Try.func120, Try.ntmps120
  go_wp2_with (go_at_call 118; refine (pload_any q b g c ws u i _ h).mono ?_; rintro e w1 ⟨rfl, hm, hc⟩)
  go_ret2
  exact ⟨rfl, hm, hc⟩
theorem pcas_any (q b g c : Nat) (ws : List Int) (u : Bool) (i o x : Int) (w : World) (h : PkAt w q b g c ws u) :
    Calls Try.prog 116 #[.pointer (some ⟨q, 0, none⟩), .int .i64 i, .int .u64 o, .int .u64 x] w (PkP w q b g c ws (pkU ws u i) (.tuple #[.bool (pkE ws u i == 0 && pkB ws u i == o), .int .i64 (pkE ws u i)])) := by
  have hl := fun W h => pload_any q b g c ws u i W h
  generalize pkE ws u i = E at hl ⊢
  generalize pkB ws u i = B at hl ⊢
  by_cases he : E = 0
  · subst he
    go_enter Try.func116, Try.ntmps116
    go_wp2_with (go_at_call 118; refine (hl _ h).mono ?_; rintro e w1 ⟨rfl, hm, hc⟩)
    go_ret2
    exact ⟨rfl, hm, hc⟩
  · have e1 : (E == 0) = false := by simpa using he
    clear he
    go_enter Try.func116, Try.ntmps116
    go_wp2_with (go_at_call 118; refine (hl _ h).mono ?_; rintro e w1 ⟨rfl, hm, hc⟩)
    go_ret2
    exact ⟨by rw [e1]; rfl, hm, hc⟩
def peekM (q b g c : Nat) : Mif (List Int × Bool) where
  T := 152
  p := .pointer (some ⟨q, 0, none⟩)
  fl := 118
  fs := 119
  fw := 120
  fc := 116
  At := fun w s => PkAt w q b g c s.1 s.2
  own := fun k => k = b ∨ k = g ∨ k = q
  nx := fun s _ i _ _ => (s.1, pkU s.1 s.2 i)
  B := fun s _ i => pkB s.1 s.2 i
  E := fun s _ i => pkE s.1 s.2 i
theorem peek_ok (q b g c : Nat) : (peekM q b g c).Ok where
  nl := fun w => by show (nilAhead 285 152 (.pointer (some ⟨q, 0, none⟩)) "Load").run Try.prog w = _; kernel_rfl
  ml := fun w => by show (method 285 152 (.pointer (some ⟨q, 0, none⟩)) "Load").run Try.prog w = .ok (118, .pointer (some ⟨q, 0, none⟩)) w; kernel_rfl
  ns := fun w => by show (nilAhead 285 152 (.pointer (some ⟨q, 0, none⟩)) "Store").run Try.prog w = _; kernel_rfl
  ms := fun w => by show (method 285 152 (.pointer (some ⟨q, 0, none⟩)) "Store").run Try.prog w = .ok (119, .pointer (some ⟨q, 0, none⟩)) w; kernel_rfl
  nw := fun w => by show (nilAhead 285 152 (.pointer (some ⟨q, 0, none⟩)) "Swap").run Try.prog w = _; kernel_rfl
  mw := fun w => by show (method 285 152 (.pointer (some ⟨q, 0, none⟩)) "Swap").run Try.prog w = .ok (120, .pointer (some ⟨q, 0, none⟩)) w; kernel_rfl
  nc := fun w => by show (nilAhead 285 152 (.pointer (some ⟨q, 0, none⟩)) "CAS").run Try.prog w = _; kernel_rfl
  mc := fun w => by show (method 285 152 (.pointer (some ⟨q, 0, none⟩)) "CAS").run Try.prog w = .ok (116, .pointer (some ⟨q, 0, none⟩)) w; kernel_rfl
  kl := fun args w => by show (callFunc 118 args).run Try.prog w = .ok (.enter 118 args) w; kernel_rfl
  ks := fun args w => by show (callFunc 119 args).run Try.prog w = .ok (.enter 119 args) w; kernel_rfl
  kw := fun args w => by show (callFunc 120 args).run Try.prog w = .ok (.enter 120 args) w; kernel_rfl
  kc := fun args w => by show (callFunc 116 args).run Try.prog w = .ok (.enter 116 args) w; kernel_rfl
  cl := fun w s i h => pload_any q b g c s.1 s.2 i w h
  cs := fun w s i x h _ => pstore_any q b g c s.1 s.2 i x w h
  cw := fun w s i x h _ => pswap_any q b g c s.1 s.2 i x w h
  cc := fun w s i u x h _ => pcas_any q b g c s.1 s.2 i u x w h
  keep := fun w w' s F h hc hf => PkAt.keep h hc (hf b (.inl rfl)) (hf g (.inr (.inl rfl))) (hf q (.inr (.inr rfl)))
  lt := fun w s k h ho => by
    rcases ho with rfl | rfl | rfl
    · exact (MemAt.lt h.1).1
    · exact (MemAt.lt h.1).2
    · exact Blk.lt h.2
  ty := fun w s k h ho => by
    rcases ho with rfl | rfl | rfl
    · exact ⟨_, _, MemAt.hd h.1, .inl rfl⟩
    · obtain ⟨sp, hr⟩ := MemAt.row h.1
      exact ⟨_, _, hr, .inr (.inl rfl)⟩
    · exact ⟨_, _, h.2, .inr (.inr (.inr rfl))⟩
  bu := fun w s k i h => by
    show U64 (pkB s.1 s.2 i)
    unfold pkB
    split
    · exact ⟨by omega, by omega⟩
    · exact doB_u s.1 1 i (MemAt.wf h.1)
end Go.Proofs.Ytmbofohdjdipdaa
