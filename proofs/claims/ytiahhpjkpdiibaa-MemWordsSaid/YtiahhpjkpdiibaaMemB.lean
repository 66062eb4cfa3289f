/-
  Contracts of package mem: the methods of an arena that allows one access, and the law's helpers over it.
-/
import Derived.Test.YtiahhpjkpdiibaaMemA
namespace Go.Proofs.Ytiahhpjkpdiibaa
open Go.RowKit

structure Note where
  k : Int
  i : Int
  b : Int
  a : Int
def oWs (ws : List Int) (n : Note) (k i bf af : Int) : List Int := if n.k = 0 then doWs ws k i bf af else ws
def oE (ws : List Int) (n : Note) (k i : Int) : Int := if n.k = 0 then doE ws k i else 11
def oB (ws : List Int) (n : Note) (k i : Int) : Int := if n.k = 0 then doB ws k i else 0
def oA (ws : List Int) (n : Note) (k i bf af : Int) : Int := if n.k = 0 then doA ws k i bf af else 0
def oK (ws : List Int) (n : Note) (k i : Int) : Int := if n.k = 0 then doK ws k i else 0
def oI (ws : List Int) (n : Note) (k i : Int) : Int := if n.k = 0 then doI ws k i else 0
def oN (ws : List Int) (n : Note) (k i bf af : Int) : Note := if n.k = 0 then ⟨doK ws k i, doI ws k i, doB ws k i, doA ws k i bf af⟩ else n
/-- an arena that allows one access: the arena, and what it has noted -/
structure OnAt (w : World) (o b g c : Nat) (ws : List Int) (n : Note) : Prop where
  mem : MemAt w b g c ws
  once : OnceAt w o b n.k n.i n.b n.a
  zero : n.k = 0 → n = ⟨0, 0, 0, 0⟩
  nb : b ≠ o
  ng : g ≠ o
section
variable {w w' : World} {o b g c : Nat} {ws : List Int} {n : Note}
theorem OnAt.keep {F : Nat → Prop} (h : OnAt w o b g c ws n) (hc : Ch F w w') (hb : ¬ F b) (hg : ¬ F g) (ho : ¬ F o) : OnAt w' o b g c ws n :=
  ⟨h.mem.keep hc hb hg, h.once.keep hc ho, h.zero, h.nb, h.ng⟩
theorem OnAt.below (h : OnAt w o b g c ws n) (hc : Below w.heap.size w w') : OnAt w' o b g c ws n := h.keep (Ch.of_below hc (fun _ => False)) (fun e => e) (fun e => e) (fun e => e)
end
def OPost (w : World) (o b g c : Nat) (ws : List Int) (n : Note) (v : Value) (e : Ending) (w' : World) : Prop := e = .returned v ∧ OnAt w' o b g c ws n ∧ Ch (fun j => j = g ∨ j = o) w w'
theorem opost {w W w1 w' : World} {o b g c : Nat} {ws ws' : List Int} {n n' : Note} {v : Value} (hw : ws' = ws) (hn : n' = n) (hm : OnAt w1 o b g c ws' n') (hc : Ch (fun j => j = g ∨ j = o) W w1) (h0 : Below w.heap.size w W) (hb : Below w1.heap.size w1 w') :
    OPost w o b g c ws n v (.returned v) w' := by
  subst hw hn
  exact ⟨rfl, hm.below hb, ((Ch.of_below h0 _).trans hc (fun _ _ e => e)).trans (Ch.of_below hb (fun j => j = g ∨ j = o)) (fun _ _ e => e)⟩
theorem oN_zero {ws : List Int} {n : Note} {k i bf af : Int} (hz : n.k = 0 → n = ⟨0, 0, 0, 0⟩) : (oN ws n k i bf af).k = 0 → oN ws n k i bf af = ⟨0, 0, 0, 0⟩ := by
  unfold oN
  split
  · intro h
    have h1 : doK ws k i = 0 := h
    have h2 : doE ws k i ≠ 0 := by
      intro he
      have h3 := he
      unfold doE at he
      unfold doK at h1
      rw [if_pos h3] at h1
      subst h1
      rw [if_pos (by omega)] at he
      omega
    unfold doK doI doB doA
    simp [h2]
  · exact hz
theorem odo_any (o b g c : Nat) (ws : List Int) (n : Note) (k i bf af : Int) (w : World) (h : OnAt w o b g c ws n) (haf : 0 ≤ af ∧ af ≤ 18446744073709551615) :
    Calls Try.prog 57 #[.pointer (some ⟨o, 0, none⟩), acc4 k i bf af] w (OPost w o b g c (oWs ws n k i bf af) (oN ws n k i bf af) (.tuple #[acc4 (oK ws n k i) (oI ws n k i) (oB ws n k i) (oA ws n k i bf af), .int .i64 (oE ws n k i)])) := by
  have hz := oN_zero (ws := ws) (k := k) (i := i) (bf := bf) (af := af) h.zero
  by_cases hk : n.k = 0
  · have hn := h.zero hk
    subst hn
    refine (odo_ok o b g c ws k i bf af w h.once h.mem h.nb h.ng haf).mono ?_
    rintro e w' ⟨rfl, hm, ho, hc⟩
    exact ⟨rfl, ⟨hm, ho, hz, h.nb, h.ng⟩, hc⟩
  · refine (odo_busy o b n.k n.i n.b n.a k i bf af w h.once hk).mono ?_
    rintro e w' ⟨rfl, hb⟩
    refine ⟨by simp [oK, oI, oB, oA, oE, hk], ?_, Ch.of_below hb _⟩
    have := h.below hb
    unfold oWs oN
    rw [if_neg hk, if_neg hk]
    exact this

theorem oload_any (o b g c : Nat) (ws : List Int) (n : Note) (i : Int) (w : World) (h : OnAt w o b g c ws n) :
    Calls Try.prog 54 #[.pointer (some ⟨o, 0, none⟩), .int .i64 i] w (OPost w o b g c (oWs ws n 1 i 0 0) (oN ws n 1 i 0 0) (.tuple #[.int .u64 (oB ws n 1 i), .int .i64 (oE ws n 1 i)])) := by
  go_enter Try.func54, Try.ntmps54
  go_wp2_with ((go_at_call 57; refine (odo_any o b g c ws n _ _ _ _ _ (h.below (by (repeat' (first | (with_reducible exact Below.refl _ _) | (with_reducible assumption) | (with_reducible refine Below.alloc ?_ ?_ _) | (with_reducible refine Below.drew ?_) | (with_reducible refine below_drewN ?_ _) | (with_reducible refine Below.setCell ?_ ?_ _) | (with_reducible refine Below.trans ?_ (Below.mono (by assumption) ?_)) | (first | go_size | (with_reducible exact Below.size (by assumption)) | (with_reducible exact Nat.le_trans (Below.size (by assumption)) (Below.size (by assumption))) | (refine Nat.le_trans (Below.size (by assumption)) ?_; go_size)))))) (by omega)).mono ?_; rintro e w1 ⟨rfl, hm, hc⟩))
  go_ret2
  exact opost rfl rfl hm hc (by (repeat' (first | (with_reducible exact Below.refl _ _) | (with_reducible assumption) | (with_reducible refine Below.alloc ?_ ?_ _) | (with_reducible refine Below.drew ?_) | (with_reducible refine below_drewN ?_ _) | (with_reducible refine Below.setCell ?_ ?_ _) | (with_reducible refine Below.trans ?_ (Below.mono (by assumption) ?_)) | (first | go_size | (with_reducible exact Below.size (by assumption)) | (with_reducible exact Nat.le_trans (Below.size (by assumption)) (Below.size (by assumption))) | (refine Nat.le_trans (Below.size (by assumption)) ?_; go_size))))) (by (repeat' (first | (with_reducible exact Below.refl _ _) | (with_reducible assumption) | (with_reducible refine Below.alloc ?_ ?_ _) | (with_reducible refine Below.drew ?_) | (with_reducible refine below_drewN ?_ _) | (with_reducible refine Below.setCell ?_ ?_ _) | (with_reducible refine Below.trans ?_ (Below.mono (by assumption) ?_)) | (first | go_size | (with_reducible exact Below.size (by assumption)) | (with_reducible exact Nat.le_trans (Below.size (by assumption)) (Below.size (by assumption))) | (refine Nat.le_trans (Below.size (by assumption)) ?_; go_size)))))

theorem ostore_any (o b g c : Nat) (ws : List Int) (n : Note) (i x : Int) (w : World) (h : OnAt w o b g c ws n) (hx : 0 ≤ x ∧ x ≤ 18446744073709551615) :
    Calls Try.prog 55 #[.pointer (some ⟨o, 0, none⟩), .int .i64 i, .int .u64 x] w (OPost w o b g c (oWs ws n 2 i 0 x) (oN ws n 2 i 0 x) (.int .i64 (oE ws n 2 i))) := by
  go_enter Try.func55, Try.ntmps55
  go_wp2_with ((go_at_call 57; refine (odo_any o b g c ws n _ _ _ _ _ (h.below (by (repeat' (first | (with_reducible exact Below.refl _ _) | (with_reducible assumption) | (with_reducible refine Below.alloc ?_ ?_ _) | (with_reducible refine Below.drew ?_) | (with_reducible refine below_drewN ?_ _) | (with_reducible refine Below.setCell ?_ ?_ _) | (with_reducible refine Below.trans ?_ (Below.mono (by assumption) ?_)) | (first | go_size | (with_reducible exact Below.size (by assumption)) | (with_reducible exact Nat.le_trans (Below.size (by assumption)) (Below.size (by assumption))) | (refine Nat.le_trans (Below.size (by assumption)) ?_; go_size)))))) (by omega)).mono ?_; rintro e w1 ⟨rfl, hm, hc⟩))
  go_ret
  exact opost rfl rfl hm hc (by (repeat' (first | (with_reducible exact Below.refl _ _) | (with_reducible assumption) | (with_reducible refine Below.alloc ?_ ?_ _) | (with_reducible refine Below.drew ?_) | (with_reducible refine below_drewN ?_ _) | (with_reducible refine Below.setCell ?_ ?_ _) | (with_reducible refine Below.trans ?_ (Below.mono (by assumption) ?_)) | (first | go_size | (with_reducible exact Below.size (by assumption)) | (with_reducible exact Nat.le_trans (Below.size (by assumption)) (Below.size (by assumption))) | (refine Nat.le_trans (Below.size (by assumption)) ?_; go_size))))) (by (repeat' (first | (with_reducible exact Below.refl _ _) | (with_reducible assumption) | (with_reducible refine Below.alloc ?_ ?_ _) | (with_reducible refine Below.drew ?_) | (with_reducible refine below_drewN ?_ _) | (with_reducible refine Below.setCell ?_ ?_ _) | (with_reducible refine Below.trans ?_ (Below.mono (by assumption) ?_)) | (first | go_size | (with_reducible exact Below.size (by assumption)) | (with_reducible exact Nat.le_trans (Below.size (by assumption)) (Below.size (by assumption))) | (refine Nat.le_trans (Below.size (by assumption)) ?_; go_size)))))

theorem oswap_any (o b g c : Nat) (ws : List Int) (n : Note) (i x : Int) (w : World) (h : OnAt w o b g c ws n) (hx : 0 ≤ x ∧ x ≤ 18446744073709551615) :
    Calls Try.prog 56 #[.pointer (some ⟨o, 0, none⟩), .int .i64 i, .int .u64 x] w (OPost w o b g c (oWs ws n 4 i 0 x) (oN ws n 4 i 0 x) (.tuple #[.int .u64 (oB ws n 4 i), .int .i64 (oE ws n 4 i)])) := by
  go_enter Try.func56, Try.ntmps56
  go_wp2_with ((go_at_call 57; refine (odo_any o b g c ws n _ _ _ _ _ (h.below (by (repeat' (first | (with_reducible exact Below.refl _ _) | (with_reducible assumption) | (with_reducible refine Below.alloc ?_ ?_ _) | (with_reducible refine Below.drew ?_) | (with_reducible refine below_drewN ?_ _) | (with_reducible refine Below.setCell ?_ ?_ _) | (with_reducible refine Below.trans ?_ (Below.mono (by assumption) ?_)) | (first | go_size | (with_reducible exact Below.size (by assumption)) | (with_reducible exact Nat.le_trans (Below.size (by assumption)) (Below.size (by assumption))) | (refine Nat.le_trans (Below.size (by assumption)) ?_; go_size)))))) (by omega)).mono ?_; rintro e w1 ⟨rfl, hm, hc⟩))
  go_ret2
  exact opost rfl rfl hm hc (by (repeat' (first | (with_reducible exact Below.refl _ _) | (with_reducible assumption) | (with_reducible refine Below.alloc ?_ ?_ _) | (with_reducible refine Below.drew ?_) | (with_reducible refine below_drewN ?_ _) | (with_reducible refine Below.setCell ?_ ?_ _) | (with_reducible refine Below.trans ?_ (Below.mono (by assumption) ?_)) | (first | go_size | (with_reducible exact Below.size (by assumption)) | (with_reducible exact Nat.le_trans (Below.size (by assumption)) (Below.size (by assumption))) | (refine Nat.le_trans (Below.size (by assumption)) ?_; go_size))))) (by (repeat' (first | (with_reducible exact Below.refl _ _) | (with_reducible assumption) | (with_reducible refine Below.alloc ?_ ?_ _) | (with_reducible refine Below.drew ?_) | (with_reducible refine below_drewN ?_ _) | (with_reducible refine Below.setCell ?_ ?_ _) | (with_reducible refine Below.trans ?_ (Below.mono (by assumption) ?_)) | (first | go_size | (with_reducible exact Below.size (by assumption)) | (with_reducible exact Nat.le_trans (Below.size (by assumption)) (Below.size (by assumption))) | (refine Nat.le_trans (Below.size (by assumption)) ?_; go_size)))))

theorem ocas_any (o b g c : Nat) (ws : List Int) (n : Note) (i u x : Int) (w : World) (h : OnAt w o b g c ws n) (hx : 0 ≤ x ∧ x ≤ 18446744073709551615) :
    Calls Try.prog 53 #[.pointer (some ⟨o, 0, none⟩), .int .i64 i, .int .u64 u, .int .u64 x] w (OPost w o b g c (oWs ws n 3 i u x) (oN ws n 3 i u x) (.tuple #[.bool (oE ws n 3 i == 0 && oB ws n 3 i == u), .int .i64 (oE ws n 3 i)])) := by
  by_cases he : oE ws n 3 i = 0
  · have H := Lib.hid he
    have hb : (oE ws n 3 i == 0) = true := by rw [he]; rfl
    clear he
    go_enter Try.func53, Try.ntmps53
    go_wp2_with ((go_at_call 57; refine (odo_any o b g c ws n _ _ _ _ _ (h.below (by (repeat' (first | (with_reducible exact Below.refl _ _) | (with_reducible assumption) | (with_reducible refine Below.alloc ?_ ?_ _) | (with_reducible refine Below.drew ?_) | (with_reducible refine below_drewN ?_ _) | (with_reducible refine Below.setCell ?_ ?_ _) | (with_reducible refine Below.trans ?_ (Below.mono (by assumption) ?_)) | (first | go_size | (with_reducible exact Below.size (by assumption)) | (with_reducible exact Nat.le_trans (Below.size (by assumption)) (Below.size (by assumption))) | (refine Nat.le_trans (Below.size (by assumption)) ?_; go_size)))))) (by omega)).mono ?_; rintro e w1 ⟨rfl, hm, hc⟩))
    go_ret2
    have this : ∀ w', Below w1.heap.size w1 w' → OPost w o b g c (oWs ws n 3 i u x) (oN ws n 3 i u x) (Value.tuple #[Value.bool (oE ws n 3 i == 0 && oB ws n 3 i == u), Value.int IntKind.i64 (oE ws n 3 i)]) (.returned (Value.tuple #[Value.bool (oE ws n 3 i == 0 && oB ws n 3 i == u), Value.int IntKind.i64 (oE ws n 3 i)])) w' := fun w' hw => opost rfl rfl hm hc (by (repeat' (first | (with_reducible exact Below.refl _ _) | (with_reducible assumption) | (with_reducible refine Below.alloc ?_ ?_ _) | (with_reducible refine Below.drew ?_) | (with_reducible refine below_drewN ?_ _) | (with_reducible refine Below.setCell ?_ ?_ _) | (with_reducible refine Below.trans ?_ (Below.mono (by assumption) ?_)) | (first | go_size | (with_reducible exact Below.size (by assumption)) | (with_reducible exact Nat.le_trans (Below.size (by assumption)) (Below.size (by assumption))) | (refine Nat.le_trans (Below.size (by assumption)) ?_; go_size))))) hw
    rw [hb] at this ⊢
    rw [H.out] at this ⊢
    exact this _ (by (repeat' (first | (with_reducible exact Below.refl _ _) | (with_reducible assumption) | (with_reducible refine Below.alloc ?_ ?_ _) | (with_reducible refine Below.drew ?_) | (with_reducible refine below_drewN ?_ _) | (with_reducible refine Below.setCell ?_ ?_ _) | (with_reducible refine Below.trans ?_ (Below.mono (by assumption) ?_)) | (first | go_size | (with_reducible exact Below.size (by assumption)) | (with_reducible exact Nat.le_trans (Below.size (by assumption)) (Below.size (by assumption))) | (refine Nat.le_trans (Below.size (by assumption)) ?_; go_size)))))
  · have hb : (oE ws n 3 i == 0) = false := by rw [beq_eq_false_iff_ne]; exact he
    clear he
    go_enter Try.func53, Try.ntmps53
    go_wp2_with ((go_at_call 57; refine (odo_any o b g c ws n _ _ _ _ _ (h.below (by (repeat' (first | (with_reducible exact Below.refl _ _) | (with_reducible assumption) | (with_reducible refine Below.alloc ?_ ?_ _) | (with_reducible refine Below.drew ?_) | (with_reducible refine below_drewN ?_ _) | (with_reducible refine Below.setCell ?_ ?_ _) | (with_reducible refine Below.trans ?_ (Below.mono (by assumption) ?_)) | (first | go_size | (with_reducible exact Below.size (by assumption)) | (with_reducible exact Nat.le_trans (Below.size (by assumption)) (Below.size (by assumption))) | (refine Nat.le_trans (Below.size (by assumption)) ?_; go_size)))))) (by omega)).mono ?_; rintro e w1 ⟨rfl, hm, hc⟩))
    go_ret2
    have this : ∀ w', Below w1.heap.size w1 w' → OPost w o b g c (oWs ws n 3 i u x) (oN ws n 3 i u x) (Value.tuple #[Value.bool (oE ws n 3 i == 0 && oB ws n 3 i == u), Value.int IntKind.i64 (oE ws n 3 i)]) (.returned (Value.tuple #[Value.bool (oE ws n 3 i == 0 && oB ws n 3 i == u), Value.int IntKind.i64 (oE ws n 3 i)])) w' := fun w' hw => opost rfl rfl hm hc (by (repeat' (first | (with_reducible exact Below.refl _ _) | (with_reducible assumption) | (with_reducible refine Below.alloc ?_ ?_ _) | (with_reducible refine Below.drew ?_) | (with_reducible refine below_drewN ?_ _) | (with_reducible refine Below.setCell ?_ ?_ _) | (with_reducible refine Below.trans ?_ (Below.mono (by assumption) ?_)) | (first | go_size | (with_reducible exact Below.size (by assumption)) | (with_reducible exact Nat.le_trans (Below.size (by assumption)) (Below.size (by assumption))) | (refine Nat.le_trans (Below.size (by assumption)) ?_; go_size))))) hw
    rw [hb] at this ⊢
    exact this _ (by (repeat' (first | (with_reducible exact Below.refl _ _) | (with_reducible assumption) | (with_reducible refine Below.alloc ?_ ?_ _) | (with_reducible refine Below.drew ?_) | (with_reducible refine below_drewN ?_ _) | (with_reducible refine Below.setCell ?_ ?_ _) | (with_reducible refine Below.trans ?_ (Below.mono (by assumption) ?_)) | (first | go_size | (with_reducible exact Below.size (by assumption)) | (with_reducible exact Nat.le_trans (Below.size (by assumption)) (Below.size (by assumption))) | (refine Nat.le_trans (Below.size (by assumption)) ?_; go_size)))))

abbrev onceI (o : Nat) : Value := .iface 44 (.pointer (some ⟨o, 0, none⟩))

theorem oloads_any (o b g c : Nat) (ws : List Int) (n : Note) (i want no : Int) (w : World) (h : OnAt w o b g c ws n) :
    Calls Try.prog 18 #[onceI o, .int .i64 i, .int .u64 want, .int .i64 no] w (OPost w o b g c (oWs ws n 1 i 0 0) (oN ws n 1 i 0 0) (.bool (oB ws n 1 i == want && oE ws n 1 i == no))) := by
  cases h1 : (oB ws n 1 i == want) <;> cases h2 : (oE ws n 1 i == no)
  all_goals
    go_enter Try.func18, Try.ntmps18
    go_wp2_with (go_at_call 54; refine (oload_any o b g c ws n _ _ (h.below (by (repeat' (first | (with_reducible exact Below.refl _ _) | (with_reducible assumption) | (with_reducible refine Below.alloc ?_ ?_ _) | (with_reducible refine Below.drew ?_) | (with_reducible refine below_drewN ?_ _) | (with_reducible refine Below.setCell ?_ ?_ _) | (with_reducible refine Below.trans ?_ (Below.mono (by assumption) ?_)) | (first | go_size | (with_reducible exact Below.size (by assumption)) | (with_reducible exact Nat.le_trans (Below.size (by assumption)) (Below.size (by assumption))) | (refine Nat.le_trans (Below.size (by assumption)) ?_; go_size))))))).mono ?_; rintro e w1 ⟨rfl, hm, hc⟩)
    go_ret
    exact opost rfl rfl hm hc (by (repeat' (first | (with_reducible exact Below.refl _ _) | (with_reducible assumption) | (with_reducible refine Below.alloc ?_ ?_ _) | (with_reducible refine Below.drew ?_) | (with_reducible refine below_drewN ?_ _) | (with_reducible refine Below.setCell ?_ ?_ _) | (with_reducible refine Below.trans ?_ (Below.mono (by assumption) ?_)) | (first | go_size | (with_reducible exact Below.size (by assumption)) | (with_reducible exact Nat.le_trans (Below.size (by assumption)) (Below.size (by assumption))) | (refine Nat.le_trans (Below.size (by assumption)) ?_; go_size))))) (by (repeat' (first | (with_reducible exact Below.refl _ _) | (with_reducible assumption) | (with_reducible refine Below.alloc ?_ ?_ _) | (with_reducible refine Below.drew ?_) | (with_reducible refine below_drewN ?_ _) | (with_reducible refine Below.setCell ?_ ?_ _) | (with_reducible refine Below.trans ?_ (Below.mono (by assumption) ?_)) | (first | go_size | (with_reducible exact Below.size (by assumption)) | (with_reducible exact Nat.le_trans (Below.size (by assumption)) (Below.size (by assumption))) | (refine Nat.le_trans (Below.size (by assumption)) ?_; go_size)))))

theorem ostores_any (o b g c : Nat) (ws : List Int) (n : Note) (i x no : Int) (w : World) (h : OnAt w o b g c ws n) (hx : 0 ≤ x ∧ x ≤ 18446744073709551615) :
    Calls Try.prog 25 #[onceI o, .int .i64 i, .int .u64 x, .int .i64 no] w (OPost w o b g c (oWs ws n 2 i 0 x) (oN ws n 2 i 0 x) (.bool (oE ws n 2 i == no))) := by
  go_enter Try.func25, Try.ntmps25
  go_wp2_with (go_at_call 55; refine (ostore_any o b g c ws n _ _ _ (h.below (by (repeat' (first | (with_reducible exact Below.refl _ _) | (with_reducible assumption) | (with_reducible refine Below.alloc ?_ ?_ _) | (with_reducible refine Below.drew ?_) | (with_reducible refine below_drewN ?_ _) | (with_reducible refine Below.setCell ?_ ?_ _) | (with_reducible refine Below.trans ?_ (Below.mono (by assumption) ?_)) | (first | go_size | (with_reducible exact Below.size (by assumption)) | (with_reducible exact Nat.le_trans (Below.size (by assumption)) (Below.size (by assumption))) | (refine Nat.le_trans (Below.size (by assumption)) ?_; go_size)))))) hx).mono ?_; rintro e w1 ⟨rfl, hm, hc⟩)
  go_ret
  exact opost rfl rfl hm hc (by (repeat' (first | (with_reducible exact Below.refl _ _) | (with_reducible assumption) | (with_reducible refine Below.alloc ?_ ?_ _) | (with_reducible refine Below.drew ?_) | (with_reducible refine below_drewN ?_ _) | (with_reducible refine Below.setCell ?_ ?_ _) | (with_reducible refine Below.trans ?_ (Below.mono (by assumption) ?_)) | (first | go_size | (with_reducible exact Below.size (by assumption)) | (with_reducible exact Nat.le_trans (Below.size (by assumption)) (Below.size (by assumption))) | (refine Nat.le_trans (Below.size (by assumption)) ?_; go_size))))) (by (repeat' (first | (with_reducible exact Below.refl _ _) | (with_reducible assumption) | (with_reducible refine Below.alloc ?_ ?_ _) | (with_reducible refine Below.drew ?_) | (with_reducible refine below_drewN ?_ _) | (with_reducible refine Below.setCell ?_ ?_ _) | (with_reducible refine Below.trans ?_ (Below.mono (by assumption) ?_)) | (first | go_size | (with_reducible exact Below.size (by assumption)) | (with_reducible exact Nat.le_trans (Below.size (by assumption)) (Below.size (by assumption))) | (refine Nat.le_trans (Below.size (by assumption)) ?_; go_size)))))

theorem oswaps_any (o b g c : Nat) (ws : List Int) (n : Note) (i x want no : Int) (w : World) (h : OnAt w o b g c ws n) (hx : 0 ≤ x ∧ x ≤ 18446744073709551615) :
    Calls Try.prog 27 #[onceI o, .int .i64 i, .int .u64 x, .int .u64 want, .int .i64 no] w (OPost w o b g c (oWs ws n 4 i 0 x) (oN ws n 4 i 0 x) (.bool (oB ws n 4 i == want && oE ws n 4 i == no))) := by
  cases h1 : (oB ws n 4 i == want) <;> cases h2 : (oE ws n 4 i == no)
  all_goals
    go_enter Try.func27, Try.ntmps27
    go_wp2_with (go_at_call 56; refine (oswap_any o b g c ws n _ _ _ (h.below (by (repeat' (first | (with_reducible exact Below.refl _ _) | (with_reducible assumption) | (with_reducible refine Below.alloc ?_ ?_ _) | (with_reducible refine Below.drew ?_) | (with_reducible refine below_drewN ?_ _) | (with_reducible refine Below.setCell ?_ ?_ _) | (with_reducible refine Below.trans ?_ (Below.mono (by assumption) ?_)) | (first | go_size | (with_reducible exact Below.size (by assumption)) | (with_reducible exact Nat.le_trans (Below.size (by assumption)) (Below.size (by assumption))) | (refine Nat.le_trans (Below.size (by assumption)) ?_; go_size)))))) hx).mono ?_; rintro e w1 ⟨rfl, hm, hc⟩)
    go_ret
    exact opost rfl rfl hm hc (by (repeat' (first | (with_reducible exact Below.refl _ _) | (with_reducible assumption) | (with_reducible refine Below.alloc ?_ ?_ _) | (with_reducible refine Below.drew ?_) | (with_reducible refine below_drewN ?_ _) | (with_reducible refine Below.setCell ?_ ?_ _) | (with_reducible refine Below.trans ?_ (Below.mono (by assumption) ?_)) | (first | go_size | (with_reducible exact Below.size (by assumption)) | (with_reducible exact Nat.le_trans (Below.size (by assumption)) (Below.size (by assumption))) | (refine Nat.le_trans (Below.size (by assumption)) ?_; go_size))))) (by (repeat' (first | (with_reducible exact Below.refl _ _) | (with_reducible assumption) | (with_reducible refine Below.alloc ?_ ?_ _) | (with_reducible refine Below.drew ?_) | (with_reducible refine below_drewN ?_ _) | (with_reducible refine Below.setCell ?_ ?_ _) | (with_reducible refine Below.trans ?_ (Below.mono (by assumption) ?_)) | (first | go_size | (with_reducible exact Below.size (by assumption)) | (with_reducible exact Nat.le_trans (Below.size (by assumption)) (Below.size (by assumption))) | (refine Nat.le_trans (Below.size (by assumption)) ?_; go_size)))))

theorem ocompares_any (o b g c : Nat) (ws : List Int) (n : Note) (i u x : Int) (want : Bool) (no : Int) (w : World) (h : OnAt w o b g c ws n) (hx : 0 ≤ x ∧ x ≤ 18446744073709551615) :
    Calls Try.prog 30 #[onceI o, .int .i64 i, .int .u64 u, .int .u64 x, .bool want, .int .i64 no] w (OPost w o b g c (oWs ws n 3 i u x) (oN ws n 3 i u x) (.bool (((oE ws n 3 i == 0 && oB ws n 3 i == u) == want) && oE ws n 3 i == no))) := by
  obtain ⟨r, hr⟩ : ∃ r, r = (oE ws n 3 i == 0 && oB ws n 3 i == u) := ⟨_, rfl⟩
  have HR := Lib.hid hr
  rw [← hr]
  clear hr
  cases h1 : (r == want) <;> cases h2 : (oE ws n 3 i == no)
  all_goals
    go_enter Try.func30, Try.ntmps30
    go_wp2_with (go_at_call 53; refine (ocas_any o b g c ws n _ _ _ _ (h.below (by (repeat' (first | (with_reducible exact Below.refl _ _) | (with_reducible assumption) | (with_reducible refine Below.alloc ?_ ?_ _) | (with_reducible refine Below.drew ?_) | (with_reducible refine below_drewN ?_ _) | (with_reducible refine Below.setCell ?_ ?_ _) | (with_reducible refine Below.trans ?_ (Below.mono (by assumption) ?_)) | (first | go_size | (with_reducible exact Below.size (by assumption)) | (with_reducible exact Nat.le_trans (Below.size (by assumption)) (Below.size (by assumption))) | (refine Nat.le_trans (Below.size (by assumption)) ?_; go_size)))))) hx).mono ?_; rw [← HR.out]; rintro e w1 ⟨rfl, hm, hc⟩)
    go_ret
    exact opost rfl rfl hm hc (by (repeat' (first | (with_reducible exact Below.refl _ _) | (with_reducible assumption) | (with_reducible refine Below.alloc ?_ ?_ _) | (with_reducible refine Below.drew ?_) | (with_reducible refine below_drewN ?_ _) | (with_reducible refine Below.setCell ?_ ?_ _) | (with_reducible refine Below.trans ?_ (Below.mono (by assumption) ?_)) | (first | go_size | (with_reducible exact Below.size (by assumption)) | (with_reducible exact Nat.le_trans (Below.size (by assumption)) (Below.size (by assumption))) | (refine Nat.le_trans (Below.size (by assumption)) ?_; go_size))))) (by (repeat' (first | (with_reducible exact Below.refl _ _) | (with_reducible assumption) | (with_reducible refine Below.alloc ?_ ?_ _) | (with_reducible refine Below.drew ?_) | (with_reducible refine below_drewN ?_ _) | (with_reducible refine Below.setCell ?_ ?_ _) | (with_reducible refine Below.trans ?_ (Below.mono (by assumption) ?_)) | (first | go_size | (with_reducible exact Below.size (by assumption)) | (with_reducible exact Nat.le_trans (Below.size (by assumption)) (Below.size (by assumption))) | (refine Nat.le_trans (Below.size (by assumption)) ?_; go_size)))))

end Go.Proofs.Ytiahhpjkpdiibaa
