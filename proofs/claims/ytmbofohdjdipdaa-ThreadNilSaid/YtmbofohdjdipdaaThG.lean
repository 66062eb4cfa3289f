/-
  Layer 12's greedy program: a step that tries two accesses.
-/
import Derived.Test.YtmbofohdjdipdaaTh7
import Derived.Test.YtmbofohdjdipdaaRecs
namespace Go.Proofs.Ytmbofohdjdipdaa
open Go.RowKit

def accN {σ : Type} (m : Mif σ) (s : σ) (n : Note) : σ := m.nx s n.k n.i (if n.k = 3 then n.b else 0) (if n.k = 1 then 0 else n.a)
structure Note.Ok (n : Note) : Prop where
  k : n.k = 1 ∨ n.k = 2 ∨ n.k = 3 ∨ n.k = 4
  a : U64 n.a
abbrev noteA (n : Note) : Value := acc4 n.k n.i n.b n.a
set_option maxHeartbeats 1000000 in
theorem access_any {σ : Type} (m : Mif σ) (hm : m.Ok) (n : Note) (hn : n.Ok) (w : World) (s : σ) (ha : m.At w s) :
    Calls Try.prog 105 #[m.v, noteA n] w (MifP m w (accN m s n) (.int .i64 (m.E s n.k n.i))) := by
  obtain ⟨K, I, X, Y⟩ := n
  obtain ⟨hK, hY⟩ := hn
  dsimp only at hK hY
  have fin : ∀ (s' : σ) v (W w1 w' : World), Below w.heap.size w W → m.At w1 s' → Ch m.own W w1 → Below w1.heap.size w1 w' → MifP m w s' v (.returned v) w' := fun s' v W w1 w' h0 h1 h2 h3 =>
    ⟨rfl, hm.below h1 h3, ((Ch.of_below h0 m.own).trans h2 (fun _ _ e => e)).trans (Ch.of_below h3 m.own) (fun _ _ e => e)⟩
  have HF := Lib.hid fin
  clear fin
  rcases hK with rfl | rfl | rfl | rfl
  · have n1 := hm.nl
    have n2 := hm.ml
    have n3 := hm.kl
    show Calls _ _ _ _ (MifP m w (m.nx s 1 I 0 0) _)
    have hc := fun W => hm.cl W s I
    generalize m.nx s 1 I 0 0 = s' at *
    go_enter Try.func105, Try.ntmps105
    go_wp2_with ((with_reducible refine (hc _ (hm.below ha (by (repeat' (first | (with_reducible exact Below.refl _ _) | (with_reducible assumption) | (with_reducible refine Below.alloc ?_ ?_ _) | (with_reducible refine Below.drew ?_) | (with_reducible refine below_drewN ?_ _) | (with_reducible refine Below.setCell ?_ ?_ _) | (with_reducible refine Below.trans ?_ (Below.mono (by assumption) ?_)) | (first | go_size | (with_reducible exact Below.size (by assumption)) | (with_reducible exact Nat.le_trans (Below.size (by assumption)) (Below.size (by assumption))) | (refine Nat.le_trans (Below.size (by assumption)) ?_; go_size))))))).mono ?_); rintro e w1 ⟨rfl, hA, hC⟩)
    go_ret
    exact HF.out _ _ _ _ _ (by (repeat' (first | (with_reducible exact Below.refl _ _) | (with_reducible assumption) | (with_reducible refine Below.alloc ?_ ?_ _) | (with_reducible refine Below.drew ?_) | (with_reducible refine below_drewN ?_ _) | (with_reducible refine Below.setCell ?_ ?_ _) | (with_reducible refine Below.trans ?_ (Below.mono (by assumption) ?_)) | (first | go_size | (with_reducible exact Below.size (by assumption)) | (with_reducible exact Nat.le_trans (Below.size (by assumption)) (Below.size (by assumption))) | (refine Nat.le_trans (Below.size (by assumption)) ?_; go_size))))) hA hC (by (repeat' (first | (with_reducible exact Below.refl _ _) | (with_reducible assumption) | (with_reducible refine Below.alloc ?_ ?_ _) | (with_reducible refine Below.drew ?_) | (with_reducible refine below_drewN ?_ _) | (with_reducible refine Below.setCell ?_ ?_ _) | (with_reducible refine Below.trans ?_ (Below.mono (by assumption) ?_)) | (first | go_size | (with_reducible exact Below.size (by assumption)) | (with_reducible exact Nat.le_trans (Below.size (by assumption)) (Below.size (by assumption))) | (refine Nat.le_trans (Below.size (by assumption)) ?_; go_size)))))
  · have n1 := hm.ns
    have n2 := hm.ms
    have n3 := hm.ks
    show Calls _ _ _ _ (MifP m w (m.nx s 2 I 0 Y) _)
    have hc := fun W h => hm.cs W s I Y h hY
    generalize m.nx s 2 I 0 Y = s' at *
    go_enter Try.func105, Try.ntmps105
    go_wp2_with ((with_reducible refine (hc _ (hm.below ha (by (repeat' (first | (with_reducible exact Below.refl _ _) | (with_reducible assumption) | (with_reducible refine Below.alloc ?_ ?_ _) | (with_reducible refine Below.drew ?_) | (with_reducible refine below_drewN ?_ _) | (with_reducible refine Below.setCell ?_ ?_ _) | (with_reducible refine Below.trans ?_ (Below.mono (by assumption) ?_)) | (first | go_size | (with_reducible exact Below.size (by assumption)) | (with_reducible exact Nat.le_trans (Below.size (by assumption)) (Below.size (by assumption))) | (refine Nat.le_trans (Below.size (by assumption)) ?_; go_size))))))).mono ?_); rintro e w1 ⟨rfl, hA, hC⟩)
    go_ret
    exact HF.out _ _ _ _ _ (by (repeat' (first | (with_reducible exact Below.refl _ _) | (with_reducible assumption) | (with_reducible refine Below.alloc ?_ ?_ _) | (with_reducible refine Below.drew ?_) | (with_reducible refine below_drewN ?_ _) | (with_reducible refine Below.setCell ?_ ?_ _) | (with_reducible refine Below.trans ?_ (Below.mono (by assumption) ?_)) | (first | go_size | (with_reducible exact Below.size (by assumption)) | (with_reducible exact Nat.le_trans (Below.size (by assumption)) (Below.size (by assumption))) | (refine Nat.le_trans (Below.size (by assumption)) ?_; go_size))))) hA hC (by (repeat' (first | (with_reducible exact Below.refl _ _) | (with_reducible assumption) | (with_reducible refine Below.alloc ?_ ?_ _) | (with_reducible refine Below.drew ?_) | (with_reducible refine below_drewN ?_ _) | (with_reducible refine Below.setCell ?_ ?_ _) | (with_reducible refine Below.trans ?_ (Below.mono (by assumption) ?_)) | (first | go_size | (with_reducible exact Below.size (by assumption)) | (with_reducible exact Nat.le_trans (Below.size (by assumption)) (Below.size (by assumption))) | (refine Nat.le_trans (Below.size (by assumption)) ?_; go_size)))))
  · have n1 := hm.nc
    have n2 := hm.mc
    have n3 := hm.kc
    show Calls _ _ _ _ (MifP m w (m.nx s 3 I X Y) _)
    have hc := fun W h => hm.cc W s I X Y h hY
    generalize m.nx s 3 I X Y = s' at *
    go_enter Try.func105, Try.ntmps105
    go_wp2_with ((with_reducible refine (hc _ (hm.below ha (by (repeat' (first | (with_reducible exact Below.refl _ _) | (with_reducible assumption) | (with_reducible refine Below.alloc ?_ ?_ _) | (with_reducible refine Below.drew ?_) | (with_reducible refine below_drewN ?_ _) | (with_reducible refine Below.setCell ?_ ?_ _) | (with_reducible refine Below.trans ?_ (Below.mono (by assumption) ?_)) | (first | go_size | (with_reducible exact Below.size (by assumption)) | (with_reducible exact Nat.le_trans (Below.size (by assumption)) (Below.size (by assumption))) | (refine Nat.le_trans (Below.size (by assumption)) ?_; go_size))))))).mono ?_); rintro e w1 ⟨rfl, hA, hC⟩)
    go_ret
    exact HF.out _ _ _ _ _ (by (repeat' (first | (with_reducible exact Below.refl _ _) | (with_reducible assumption) | (with_reducible refine Below.alloc ?_ ?_ _) | (with_reducible refine Below.drew ?_) | (with_reducible refine below_drewN ?_ _) | (with_reducible refine Below.setCell ?_ ?_ _) | (with_reducible refine Below.trans ?_ (Below.mono (by assumption) ?_)) | (first | go_size | (with_reducible exact Below.size (by assumption)) | (with_reducible exact Nat.le_trans (Below.size (by assumption)) (Below.size (by assumption))) | (refine Nat.le_trans (Below.size (by assumption)) ?_; go_size))))) hA hC (by (repeat' (first | (with_reducible exact Below.refl _ _) | (with_reducible assumption) | (with_reducible refine Below.alloc ?_ ?_ _) | (with_reducible refine Below.drew ?_) | (with_reducible refine below_drewN ?_ _) | (with_reducible refine Below.setCell ?_ ?_ _) | (with_reducible refine Below.trans ?_ (Below.mono (by assumption) ?_)) | (first | go_size | (with_reducible exact Below.size (by assumption)) | (with_reducible exact Nat.le_trans (Below.size (by assumption)) (Below.size (by assumption))) | (refine Nat.le_trans (Below.size (by assumption)) ?_; go_size)))))
  · have n1 := hm.nw
    have n2 := hm.mw
    have n3 := hm.kw
    show Calls _ _ _ _ (MifP m w (m.nx s 4 I 0 Y) _)
    have hc := fun W h => hm.cw W s I Y h hY
    generalize m.nx s 4 I 0 Y = s' at *
    go_enter Try.func105, Try.ntmps105
    go_wp2_with ((with_reducible refine (hc _ (hm.below ha (by (repeat' (first | (with_reducible exact Below.refl _ _) | (with_reducible assumption) | (with_reducible refine Below.alloc ?_ ?_ _) | (with_reducible refine Below.drew ?_) | (with_reducible refine below_drewN ?_ _) | (with_reducible refine Below.setCell ?_ ?_ _) | (with_reducible refine Below.trans ?_ (Below.mono (by assumption) ?_)) | (first | go_size | (with_reducible exact Below.size (by assumption)) | (with_reducible exact Nat.le_trans (Below.size (by assumption)) (Below.size (by assumption))) | (refine Nat.le_trans (Below.size (by assumption)) ?_; go_size))))))).mono ?_); rintro e w1 ⟨rfl, hA, hC⟩)
    go_ret
    exact HF.out _ _ _ _ _ (by (repeat' (first | (with_reducible exact Below.refl _ _) | (with_reducible assumption) | (with_reducible refine Below.alloc ?_ ?_ _) | (with_reducible refine Below.drew ?_) | (with_reducible refine below_drewN ?_ _) | (with_reducible refine Below.setCell ?_ ?_ _) | (with_reducible refine Below.trans ?_ (Below.mono (by assumption) ?_)) | (first | go_size | (with_reducible exact Below.size (by assumption)) | (with_reducible exact Nat.le_trans (Below.size (by assumption)) (Below.size (by assumption))) | (refine Nat.le_trans (Below.size (by assumption)) ?_; go_size))))) hA hC (by (repeat' (first | (with_reducible exact Below.refl _ _) | (with_reducible assumption) | (with_reducible refine Below.alloc ?_ ?_ _) | (with_reducible refine Below.drew ?_) | (with_reducible refine below_drewN ?_ _) | (with_reducible refine Below.setCell ?_ ?_ _) | (with_reducible refine Below.trans ?_ (Below.mono (by assumption) ?_)) | (first | go_size | (with_reducible exact Below.size (by assumption)) | (with_reducible exact Nat.le_trans (Below.size (by assumption)) (Below.size (by assumption))) | (refine Nat.le_trans (Below.size (by assumption)) ?_; go_size)))))
structure Gr where
  f : Note
  g : Note
  no : Int
  ended : Bool
def grV (nb : Nat) (x : Gr) : List Value := [.int .i64 x.f.k, .int .i64 x.f.i, .int .u64 x.f.b, .int .u64 x.f.a, .int .i64 x.g.k, .int .i64 x.g.i, .int .u64 x.g.b, .int .u64 x.g.a, .pointer (some ⟨nb, 0, none⟩), .bool x.ended]
structure GrAt (w : World) (r nb : Nat) (x : Gr) : Prop where
  b : Blk w r 112 (grV nb x)
  n : Blk w nb 29 [.int .i64 x.no]
  f : x.f.Ok
  g : x.g.Ok
section
variable {w w' : World} {r nb : Nat} {x : Gr}
theorem GrAt.ne (h : GrAt w r nb x) : r ≠ nb := Blk.ne h.b h.n (by decide)
theorem GrAt.keep {F : Nat → Prop} (h : GrAt w r nb x) (hc : Ch F w w') (h1 : ¬ F r) (h2 : ¬ F nb) : GrAt w' r nb x := ⟨h.b.keep hc h1, h.n.keep hc h2, h.f, h.g⟩
theorem GrAt.below (h : GrAt w r nb x) (hb : Below w.heap.size w w') : GrAt w' r nb x := h.keep (Ch.of_below hb (fun _ => False)) (fun e => e) (fun e => e)
end
def GrP {σ : Type} (m : Mif σ) (w : World) (r nb : Nat) (x : Gr) (s : σ) (v : Value) (e : Ending) (w' : World) : Prop := e = .returned v ∧ GrAt w' r nb x ∧ m.At w' s ∧ Ch (fun k => k = r ∨ k = nb ∨ m.own k) w w'
def grS {σ : Type} (m : Mif σ) (s : σ) (x : Gr) : σ := if m.E s x.f.k x.f.i = 0 then accN m (accN m s x.f) x.g else accN m s x.f
def grN {σ : Type} (m : Mif σ) (s : σ) (x : Gr) : Gr := if m.E s x.f.k x.f.i = 0 then { x with no := m.E (accN m s x.f) x.g.k x.g.i, ended := true } else x
set_option maxRecDepth 100000 in
set_option maxHeartbeats 2000000 in
theorem gstep_any {σ : Type} (m : Mif σ) (hm : m.Ok) (r nb : Nat) (x : Gr) (w : World) (s : σ) (h : GrAt w r nb x) (ha : m.At w s) :
    Calls Try.prog 104 #[.pointer (some ⟨r, 0, none⟩), m.v] w (GrP m w r nb (grN m s x) (grS m s x) (.tuple #[.bool false, .int .i64 (m.E s x.f.k x.f.i)])) := by
  have c0 := h.b.cell 0
  have c1 := h.b.cell 1
  have c2 := h.b.cell 2
  have c3 := h.b.cell 3
  have c4 := h.b.cell 4
  have c5 := h.b.cell 5
  have c6 := h.b.cell 6
  have c7 := h.b.cell 7
  have c8 := h.b.cell 8
  have c9 := h.b.cell 9
  simp only [grV, List.getElem?_cons_zero, List.getElem?_cons_succ] at c0 c1 c2 c3 c4 c5 c6 c7 c8 c9
  have hlt := h.b.lt
  have hno := hm.not_own ha h.b (by unfold memTy; decide)
  have hnn := hm.not_own ha h.n (by unfold memTy; decide)
  have hac := access_any m hm x.f h.f w s ha
  have hac2 := fun W => access_any m hm x.g h.g W (accN m s x.f)
  by_cases he : m.E s x.f.k x.f.i = 0
  · unfold grN grS
    rw [if_pos he, if_pos he]
    rw [he] at hac ⊢
    have HE := Lib.hid he
    clear he
    generalize accN m s x.f = s1 at *
    generalize accN m s1 x.g = s2 at *
    generalize m.E s1 x.g.k x.g.i = e2 at *
    go_enter Try.func104, Try.ntmps104
    go_upto_region 4 with (go_at_call 105; refine hac.mono ?_; rintro e w1 ⟨rfl, hA1, hC1⟩)
    have h1 := h.keep hC1 hno hnn
    have d4 := hC1.keeps c4 hno
    have d5 := hC1.keeps c5 hno
    have d6 := hC1.keeps c6 hno
    have d7 := hC1.keeps c7 hno
    have d8 := hC1.keeps c8 hno
    have hac3 := hac2 w1 hA1
    go_region_held3 (fun w' => w'.cell? ⟨r, 4, none⟩ = some (.int .i64 x.g.k) ∧ w'.cell? ⟨r, 5, none⟩ = some (.int .i64 x.g.i) ∧ w'.cell? ⟨r, 6, none⟩ = some (.int .u64 x.g.b) ∧ w'.cell? ⟨r, 7, none⟩ = some (.int .u64 x.g.a) ∧ w'.cell? ⟨r, 8, none⟩ = some (.pointer (some ⟨nb, 0, none⟩))) ((refine ⟨?_, ?_, ?_, ?_, ?_⟩ <;> first | assumption | go_cell)) (first | (go_at_call 105; ((refine (hac2 _ (hm.below hA1 (by (repeat' (first | (with_reducible exact Below.refl _ _) | (with_reducible assumption) | (with_reducible refine Below.alloc ?_ ?_ _) | (with_reducible refine Below.drew ?_) | (with_reducible refine below_drewN ?_ _) | (with_reducible refine Below.setCell ?_ ?_ _) | (with_reducible refine Below.trans ?_ (Below.mono (by assumption) ?_)) | (first | go_size | (with_reducible exact Below.size (by assumption)) | (with_reducible exact Nat.le_trans (Below.size (by assumption)) (Below.size (by assumption))) | (refine Nat.le_trans (Below.size (by assumption)) ?_; go_size))))))).mono ?_); (rintro e w2 ⟨rfl, hA2, hC2⟩); (have hb2 : Below w1.heap.size w1 w1.drew := by (repeat' (first | (with_reducible exact Below.refl _ _) | (with_reducible assumption) | (with_reducible refine Below.alloc ?_ ?_ _) | (with_reducible refine Below.drew ?_) | (with_reducible refine below_drewN ?_ _) | (with_reducible refine Below.setCell ?_ ?_ _) | (with_reducible refine Below.trans ?_ (Below.mono (by assumption) ?_)) | (first | go_size | (with_reducible exact Below.size (by assumption)) | (with_reducible exact Nat.le_trans (Below.size (by assumption)) (Below.size (by assumption))) | (refine Nat.le_trans (Below.size (by assumption)) ?_; go_size))))); (have h2 := (h1.below hb2).keep hC2 hno hnn); (have e4 := hC2.keeps (p := ⟨r, 4, none⟩) (v := .int .i64 x.g.k) (by go_cell) hno); (have e5 := hC2.keeps (p := ⟨r, 5, none⟩) (v := .int .i64 x.g.i) (by go_cell) hno); (have e6 := hC2.keeps (p := ⟨r, 6, none⟩) (v := .int .u64 x.g.b) (by go_cell) hno); (have e7 := hC2.keeps (p := ⟨r, 7, none⟩) (v := .int .u64 x.g.a) (by go_cell) hno); (have e8 := hC2.keeps (p := ⟨r, 8, none⟩) (v := .pointer (some ⟨nb, 0, none⟩)) (by go_cell) hno); (have q0 := h2.n.cell 0); (have qf := h2.n.frozen 0); (simp only [List.getElem?_cons_zero] at q0))))
    all_goals
      have r9 : w2.cell? ⟨r, 9, none⟩ = some (.bool x.ended) := h2.b.cell 9
      have rf := h2.b.frozen 9
      have hne := h2.ne
      have hne2 := hne.symm
      have hl2 := h2.b.lt
      have hl3 := h2.n.lt
      have hfin : ∀ W', W' = (w2.setCell ⟨nb, 0, none⟩ (.int .i64 e2)).setCell ⟨r, 9, none⟩ (.bool true) → ∀ v, GrP m w r nb { x with no := e2, ended := true } s2 v (.returned v) W' := fun W' eW v => by
        subst eW
        have k1 := (Ch.refl (fun k => k = r ∨ k = nb) w2).setCell (p := ⟨nb, 0, none⟩) (.inl (.inr rfl)) (.int .i64 e2)
        have k2 := k1.setCell (p := ⟨r, 9, none⟩) (.inl (.inl rfl)) (.bool true)
        have n1 := Blk.set h2.n 0 (.int .i64 e2)
        have b1 := h2.b.keep ((Ch.refl (fun k => k = nb) w2).setCell (p := ⟨nb, 0, none⟩) (.inl rfl) (.int .i64 e2)) hne
        have b2 := Blk.set b1 9 (.bool true)
        have n2 := n1.keep ((Ch.refl (fun k => k = r) _).setCell (p := ⟨r, 9, none⟩) (.inl rfl) (.bool true)) hne2
        refine ⟨rfl, ⟨b2, n2, h.f, h.g⟩, hm.keep _ _ _ _ hA2 k2 (fun k hk e => e.elim (fun e => hno (e ▸ hk)) (fun e => hnn (e ▸ hk))), ?_⟩
        exact (((hC1.mono (fun _ _ e => .inr (.inr e))).trans (Ch.of_below hb2 (fun k => k = r ∨ k = nb ∨ m.own k)) (fun _ _ e => e)).trans hC2 (fun _ _ e => .inr (.inr e))).trans k2 (fun _ _ e => e.elim .inl (fun e => .inr (.inl e)))
      have HFIN := Lib.hid hfin
      clear hfin h1 h2 e4 e5 e6 e7 e8 d4 d5 d6 d7 d8
      go_wp2
      go_ret2
      exact HFIN.out _ rfl _
  · unfold grN grS
    rw [if_neg he, if_neg he]
    have e1 : (m.E s x.f.k x.f.i != 0) = true := by simpa using he
    have HE := Lib.hid he
    clear he
    generalize m.E s x.f.k x.f.i = e0 at *
    go_enter Try.func104, Try.ntmps104
    go_wp2_with (go_at_call 105; refine hac.mono ?_; rintro e w1 ⟨rfl, hA1, hC1⟩)
    go_ret2
    exact ⟨rfl, h.keep hC1 hno hnn, hA1, hC1.mono (fun _ _ e => .inr (.inr e))⟩
theorem gdone_any (r nb : Nat) (x : Gr) (w : World) (h : GrAt w r nb x) : Calls Try.prog 102 #[.pointer (some ⟨r, 0, none⟩)] w fun e w' => e = .returned (.bool x.ended) ∧ w = w' := by
  have c9 : w.cell? ⟨r, 9, none⟩ = some (.bool x.ended) := h.b.cell 9
  go_enter Try.func102, Try.ntmps102
  go_wp2
  go_ret
  exact ⟨rfl, rfl⟩
theorem gresult_any (r : Nat) (w : World) : Calls Try.prog 103 #[.pointer (some ⟨r, 0, none⟩)] w fun e w' => e = .returned (.int .u64 5) ∧ w = w' := by
  go_enter Try.func103, Try.ntmps103
  go_wp2
  go_ret
  exact ⟨rfl, rfl⟩
set_option maxRecDepth 100000 in
set_option maxHeartbeats 2000000 in
theorem gcopy_any (r nb : Nat) (x : Gr) (w : World) (h : GrAt w r nb x) :
    Calls Try.prog 101 #[.pointer (some ⟨r, 0, none⟩)] w fun e w' => e = .returned (.iface 109 (.pointer (some ⟨w.heap.size, 0, none⟩))) ∧ GrAt w' w.heap.size nb x ∧ Below w.heap.size w w' := by
  have hR : w.rangeAt r 0 (grV nb x) := fun j v hv => by rw [Nat.zero_add, h.b.cell]; exact hv
  have hlt := h.b.lt
  have hP : ∀ W', W' = w.alloc (.cells (grV nb x).toArray 112) → GrAt W' w.heap.size nb x ∧ Below w.heap.size w W' := fun W' e => by
    subst e
    exact ⟨⟨Blk.new _ _ _, h.n.keep ((Ch.refl (fun _ => False) _).alloc _) (fun e => e), h.f, h.g⟩, by (repeat' (first | (with_reducible exact Below.refl _ _) | (with_reducible assumption) | (with_reducible refine Below.alloc ?_ ?_ _) | (with_reducible refine Below.drew ?_) | (with_reducible refine below_drewN ?_ _) | (with_reducible refine Below.setCell ?_ ?_ _) | (with_reducible refine Below.trans ?_ (Below.mono (by assumption) ?_)) | (first | go_size | (with_reducible exact Below.size (by assumption)) | (with_reducible exact Nat.le_trans (Below.size (by assumption)) (Below.size (by assumption))) | (refine Nat.le_trans (Below.size (by assumption)) ?_; go_size))))⟩
  have hone : (grV nb x).toArray.all (·.oneCell') = true := by simp [grV, Value.oneCell']
  have HO := Lib.hid hone
  clear hone
  go_enter Try.func101, Try.ntmps101
  go_upto_region 2 with (first | (refine wl_load 112 _ (r) (0) (grV nb x) _ ?_ ?_ Try.underlying112 ?_ ?_ ?_; (focus rfl); (focus (exact hR)); (focus rfl); (focus kernel_rfl)) | (refine wl_fresh 112 _ _ _ ((grV nb x).toArray) ?_ ?_ ?_ ?_ ?_ ?_; (focus rfl); (focus rfl); (focus kernel_rfl); (focus rfl); (focus (exact HO.out))))
  clear hR HO
  go_wp2
  go_ret
  exact ⟨rfl, hP _ rfl⟩
end Go.Proofs.Ytmbofohdjdipdaa
