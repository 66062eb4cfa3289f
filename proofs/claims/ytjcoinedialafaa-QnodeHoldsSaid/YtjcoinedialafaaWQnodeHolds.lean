/-
  The walk of QnodeHolds: it returns true for every base and every number of threads. The map of the words seen holds, after c of them, just the numbers from the base on, c many.
-/
import Derived.Test.YtjcoinedialafaaQnode
import Derived.Test.YtjcoinedialafaaK07
import Derived.Maps.OwnOps
import Derived.Maps.OwnSet
import Derived.Maps.Views
namespace Go.Proofs.Ytjcoinedialafaa
open Go.RowKit Go.Maps
namespace QnodeHolds

def Seen (D : DataW Unit) (B : Int) (c : Nat) : Prop :=
  Maps.size D = c ∧ ∀ x : Int, D.atKey (.int .i64 x) (.lit (.bool false)) = .lit (.bool (decide (B ≤ x ∧ x < B + c))) ∧ Maps.has D (.int .i64 x) = decide (B ≤ x ∧ x < B + c)

theorem seen_none (B : Int) : Seen (.map []) B 0 := by
  refine ⟨rfl, fun x => ?_⟩
  have h : decide (B ≤ x ∧ x < B + ((0 : Nat) : Int)) = false := by rw [decide_eq_false_iff_not]; omega
  rw [h]
  exact ⟨rfl, rfl⟩

theorem seen_step {D : DataW Unit} {B : Int} {c : Nat} (h : Seen D B c) (ht : Maps.Tidy D) : Seen (D.put (.int .i64 (B + c)) (.lit (.bool true))) B (c + 1) := by
  obtain ⟨h1, h2⟩ := h
  have hk : WideAt.IsKeyLit (.int .i64 (B + c)) := trivial
  have hn : Maps.has D (.int .i64 (B + c)) = false := by rw [(h2 _).2]; simp
  refine ⟨by rw [Maps.size_put ht, hn, h1]; rfl, fun x => ?_⟩
  by_cases e : x = B + c
  · subst e
    rw [Maps.atKey_put_same ht.isMap hk, Maps.has_put_same ht.isMap hk]
    have : decide (B ≤ B + (c : Int) ∧ B + (c : Int) < B + ((c + 1 : Nat) : Int)) = true := by simp; omega
    rw [this]
    exact ⟨rfl, rfl⟩
  · have hne : (Lit.int .i64 x) ≠ .int .i64 (B + c) := fun he => e (by injection he)
    rw [Maps.atKey_put_other hne, Maps.has_put_other hne, (h2 x).1, (h2 x).2]
    have : decide (B ≤ x ∧ x < B + (c : Int)) = decide (B ≤ x ∧ x < B + ((c + 1 : Nat) : Int)) := by
      rw [decide_eq_decide]; omega
    rw [this]
    exact ⟨rfl, rfl⟩

theorem bool_inv {P : Program} {e : TypeId} (he : P.underlying e = some .bool) {v : Value} {z : DataW Unit × List MemPlace} (h : plainElem P e v = some z) : ∃ x, v = .bool x ∧ z = (.lit (.bool x), []) := by
  unfold plainElem at h
  rw [he] at h
  cases v <;> simp at h
  obtain rfl := h
  exact ⟨_, rfl, rfl⟩

/-- a look-up of a bool in a map of the call's own -/
theorem wpList_lookup_bool {P : Program} (w : World) {ops : Array Oper} {rest : List Oper} {o : Oper} {a : Act} {Q : Exit → Act → World → Prop}
    (hg : o.guard = none) (m x : Operand) (t : TypeId) (hop : o.op = Op.lookup t m x false)
    (k e : TypeId) (K : Keyed P k) (ht : P.underlying t = some (.map k e)) (he : P.underlying e = some .bool) (hz : (zeroValue e).run P w = .ok (.bool false) w) (b n : Nat) (D : DataW Unit)
    (hm : a.eval m = .map (some b)) (hown : w.ownsMap P k (plainElem P e) b n D) (key : Value) (kl : Lit) (hx : a.eval x = key) (hkey : keyOf P k key = some kl) (c : Bool) (hat : D.atKey kl (.lit (.bool false)) = .lit (.bool c))
    (hK : wpList P ops Q rest (a.put o.dst (.bool c)) w) :
    wpList P ops Q (o :: rest) a w := by
  refine wpList_plain hg fun K' hK' => ?_
  obtain ⟨v, ps, hrun, hv⟩ := hown.lookup K ht hz (plainElem_bool he false) hkey
  rw [hat] at hv
  obtain ⟨y, rfl, hy⟩ := bool_inv he hv
  obtain ⟨rfl, _⟩ : c = y ∧ ps = [] := by simpa using hy
  unfold Oper.wp
  simp [execOp, hop, hm, hx, hrun, Result.andThen]
  exact hK' _ _ hK

theorem law : Keyed Try.prog 3 := int_keyed Try.underlying3
theorem zeroB (w : World) : (zeroValue 4).run Try.prog w = .ok (.bool false) w := by kernel_rfl

structure Inv (B t : Int) (W : World) (c : Nat) (wr : World) : Prop where
  map : ∃ D : DataW Unit, wr.ownsMap Try.prog 3 (plainElem Try.prog 4) (W.heap.size + 1) c D ∧ Seen D B c
  below : Below W.heap.size W wr
  c0 : wr.cell? ⟨W.heap.size, 0, none⟩ = some (.int .i64 B)
  c1 : wr.cell? ⟨W.heap.size, 1, none⟩ = some (.int .i64 t)

theorem Inv.step {B t : Int} {W wr w1 : World} {c : Nat} {x : Int} {D : DataW Unit} (h : Inv B t W c wr) (hs : Seen D B c) (hx : x = B + c)
    (hown : wr.ownsMap Try.prog 3 (plainElem Try.prog 4) (W.heap.size + 1) c D)
    (ho : w1.ownsMap Try.prog 3 (plainElem Try.prog 4) (W.heap.size + 1) (c + 1) (D.put (.int .i64 x) (.lit (.bool true)))) (hg : wr.grownBy w1 (some (W.heap.size + 1))) : Inv B t W (c + 1) w1 := by
  subst hx
  have lt0 := hown.lt
  refine ⟨⟨_, ho, seen_step hs (hown.tidy law)⟩, h.below.grown hg h.below.size (fun k hk => by injection hk; omega), ?_, ?_⟩
  · exact (World.cell?_of_block (hg.block _ (by dsimp only; omega) (by simp))).trans h.c0
  · exact (World.cell?_of_block (hg.block _ (by dsimp only; omega) (by simp))).trans h.c1

theorem Inv.alloc {B t : Int} {W wr : World} {c : Nat} (h : Inv B t W c wr) (o : Obj) : Inv B t W c (wr.alloc o) := by
  obtain ⟨⟨D, ho, hs⟩, hb, h0, h1⟩ := h
  have lt0 := ho.lt
  exact ⟨⟨D, ho.alloc o, hs⟩, hb.alloc hb.size o, by rw [World.cell?_alloc_lt _ _ _ (by dsimp only; omega)]; exact h0, by rw [World.cell?_alloc_lt _ _ _ (by dsimp only; omega)]; exact h1⟩

set_option maxRecDepth 100000 in
set_option maxHeartbeats 4000000 in
theorem good (B t : Int) (hB : 0 ≤ B) (ht : 1 ≤ t) (ht2 : t ≤ 64) (hB2 : B + 6 * t ≤ 65536) (w : World) :
    Calls Try.prog 5 #[.int .i64 B, .int .i64 t] w fun e w' => e = .returned (.bool true) ∧ Below w.heap.size w w' := by
  have hmm := @run_makeMap Try.prog
  go_enter Try.func5, Try.ntmps5
  go_wp2_with (first | (go_at_call 10; refine (known_ok _).mono ?_; rintro e w' ⟨rfl, hg⟩) | (go_at_call 11; refine (qnew_ok B t _ (by omega) (by omega) (by omega) (by omega)).mono ?_; rintro e w' ⟨rfl, rfl⟩) | (go_at_call 23; refine (threads_ok _ t _ (by go_cell) (by omega) (by omega)).mono ?_; rintro e w' ⟨rfl, rfl⟩))
  go_loopw [8] (fun v wr => ∃ j : Nat, j ≤ t.toNat ∧ v = .int .i64 j ∧ Inv B t w (6 * j) wr) (fun v _ => t.toNat - (intOf v).toNat)
  case atStart => exact ⟨0, Nat.zero_le _, rfl, ⟨⟨_, by simpa using World.ownsMap_made (w.alloc (.cells #[.int .i64 B, .int .i64 t] 49)) Try.prog 3 (plainElem Try.prog 4), seen_none B⟩, by (repeat' (first | (with_reducible exact Below.refl _ _) | (with_reducible assumption) | (with_reducible refine Below.alloc ?_ ?_ _) | (with_reducible refine Below.drew ?_) | (with_reducible refine below_drewN ?_ _) | (with_reducible refine Below.setCell ?_ ?_ _) | (with_reducible refine Below.trans ?_ (Below.mono (by assumption) ?_)) | go_size)), by go_cell, by go_cell⟩⟩
  case round =>
    obtain ⟨j, hj, rfl, hI⟩ := hrel
    have hc0 := hI.c0
    have hc1 := hI.c1
    by_cases hlt : (j : Int) < t
    · go_wp2_with (first | (go_at_call 10; refine (known_ok _).mono ?_; rintro e w' ⟨rfl, hg⟩) | (go_at_call 11; refine (qnew_ok B t _ (by omega) (by omega) (by omega) (by omega)).mono ?_; rintro e w' ⟨rfl, rfl⟩) | (go_at_call 23; refine (threads_ok _ t _ (by go_cell) (by omega) (by omega)).mono ?_; rintro e w' ⟨rfl, rfl⟩))
      obtain ⟨wo, rfl⟩ : ∃ wo : World, wo = wr := ⟨_, rfl⟩
      go_loopw [9] (fun v w2 => ∃ q : Int, (q = 0 ∨ q = 1 ∨ q = 2) ∧ v = .int .i64 q ∧ Inv B t w (6 * j + 3 * q.toNat) w2) (fun v _ => (2 - intOf v).toNat)
      case atStart => exact ⟨0, by omega, rfl, hI⟩
      case round =>
        obtain ⟨q, hq, rfl, hI2⟩ := hrel
        have hd0 := hI2.c0
        have hd1 := hI2.c1
        by_cases hq2 : q < 2
        · have hq0 : 0 ≤ q := by omega
          clear hq
          go_wp2_with (first | (go_at_call 10; refine (known_ok _).mono ?_; rintro e w' ⟨rfl, hg⟩) | (go_at_call 24; refine (of_ok _ t _ _ _ (by go_cell) (by omega) (by omega) (by omega) (by omega) (by omega) (by omega)).mono ?_; rintro e w' ⟨rfl, rfl⟩) | (go_at_call 29; refine (owner_ok _ t _ _ (by go_cell) (by omega) (by omega) (by omega) (by omega)).mono ?_; rintro e w' ⟨rfl, rfl⟩) | (go_at_call 25; refine (ref_ok _ t _ _ (by go_cell) (by omega) (by omega) (by omega) (by omega)).mono ?_; rintro e w' ⟨rfl, rfl⟩) | (go_at_call 32; refine (node_ok _ t _ _ (by go_cell) (by omega) (by omega) (by omega) (by omega)).mono ?_; rintro e w' ⟨rfl, rfl⟩) | (go_at_call 15; refine (next_ok _ B t _ _ (by go_cell) (by go_cell) (by omega) (by omega) (by omega) (by omega) (by omega) (by omega)).mono ?_; rintro e w' ⟨rfl, rfl⟩) | (go_at_call 17; refine (wait_ok _ B t _ _ (by go_cell) (by go_cell) (by omega) (by omega) (by omega) (by omega) (by omega) (by omega)).mono ?_; rintro e w' ⟨rfl, rfl⟩) | (go_at_call 19; refine (mode_ok _ B t _ _ (by go_cell) (by go_cell) (by omega) (by omega) (by omega) (by omega) (by omega) (by omega)).mono ?_; rintro e w' ⟨rfl, rfl⟩) | (go_at_call 14; go_in) | (go_at_call 22; go_in))
          obtain ⟨wq, rfl⟩ : ∃ wq : World, wq = wr := ⟨_, rfl⟩
          have hlt3 : w.heap.size + 1 < wq.heap.size := by obtain ⟨⟨D, ho, _⟩, _⟩ := hI2; exact ho.lt
          go_loopw [100] (fun v w3 => ∃ p : Int, (p = 0 ∨ p = 1 ∨ p = 2 ∨ p = 3) ∧ v = .int .i64 p ∧ Inv B t w (6 * j + 3 * q.toNat + p.toNat) w3 ∧
              w3.cell? ⟨wq.heap.size, 0, none⟩ = some (.int .i64 (B + 3 * (2 * ↑j + q))) ∧ w3.cell? ⟨wq.heap.size, 1, none⟩ = some (.int .i64 (B + 3 * (2 * ↑j + q) + 1)) ∧ w3.cell? ⟨wq.heap.size, 2, none⟩ = some (.int .i64 (B + 3 * (2 * ↑j + q) + 2)))
            (fun v _ => (3 - intOf v).toNat)
          case atStart => exact ⟨0, by omega, rfl, hI2.alloc _, by go_cell, by go_cell, by go_cell⟩
          case round =>
            obtain ⟨p, hp, rfl, hI3, e0, e1, e2⟩ := hrel
            obtain ⟨⟨D, hown, hs⟩, hb3, hc0', hc1'⟩ := id hI3
            rcases hp with rfl | rfl | rfl | rfl
            · go_wp2_with (first | (at_lookup; refine wpList_lookup_bool _ rfl _ _ 40 rfl 3 4 law Try.underlying40 Try.underlying4 (zeroB _) (w.heap.size + 1) _ D rfl hown (.int .i64 (B + 3 * (2 * ↑j + q))) (.int .i64 (B + 3 * (2 * ↑j + q))) rfl (keyOf_int_mk Try.underlying3 (by go_wf)) false (by rw [(hs.2 _).1]; congr 2; rw [decide_eq_false_iff_not]; omega) ?_) | (at_mapUpdate; refine wpList_mapUpdate_own _ rfl _ _ _ 40 rfl 3 4 law Try.underlying40 _ (w.heap.size + 1) _ D rfl hown (by unfold maxLen; omega) _ _ _ rfl rfl (keyOf_int_mk Try.underlying3 (by go_wf)) _ [] (plainElem_bool Try.underlying4 true) ?_) | (go_at_call 26; refine (base_ok _ B t _ (by go_cell) (by go_cell) (by omega)).mono ?_; rintro e w' ⟨rfl, rfl⟩) | (go_at_call 27; refine (len_ok _ t _ (by go_cell) (by omega) (by omega)).mono ?_; rintro e w' ⟨rfl, rfl⟩) | go_in)
              intro w1 hown1 hgrow1
              have hn := hI3.step hs (by omega) hown hown1 hgrow1
              have f0 := (World.cell?_of_block (w := wr) (w' := w1) (a := ⟨wq.heap.size, 0, none⟩) (hgrow1.block wq.heap.size (World.block_lt_of_cell? _ _ e0) (by simp; omega))).trans e0
              have f1 := (World.cell?_of_block (w := wr) (w' := w1) (a := ⟨wq.heap.size, 1, none⟩) (hgrow1.block wq.heap.size (World.block_lt_of_cell? _ _ e0) (by simp; omega))).trans e1
              have f2 := (World.cell?_of_block (w := wr) (w' := w1) (a := ⟨wq.heap.size, 2, none⟩) (hgrow1.block wq.heap.size (World.block_lt_of_cell? _ _ e0) (by simp; omega))).trans e2
              clear hs hown hown1 hgrow1
              go_wp2
              go_roundw
              case rel => exact ⟨1, by omega, rfl, hn, f0, f1, f2⟩
              case measure => simp [intOf]
            · go_wp2_with (first | (at_lookup; refine wpList_lookup_bool _ rfl _ _ 40 rfl 3 4 law Try.underlying40 Try.underlying4 (zeroB _) (w.heap.size + 1) _ D rfl hown (.int .i64 (B + 3 * (2 * ↑j + q) + 1)) (.int .i64 (B + 3 * (2 * ↑j + q) + 1)) rfl (keyOf_int_mk Try.underlying3 (by go_wf)) false (by rw [(hs.2 _).1]; congr 2; rw [decide_eq_false_iff_not]; omega) ?_) | (at_mapUpdate; refine wpList_mapUpdate_own _ rfl _ _ _ 40 rfl 3 4 law Try.underlying40 _ (w.heap.size + 1) _ D rfl hown (by unfold maxLen; omega) _ _ _ rfl rfl (keyOf_int_mk Try.underlying3 (by go_wf)) _ [] (plainElem_bool Try.underlying4 true) ?_) | (go_at_call 26; refine (base_ok _ B t _ (by go_cell) (by go_cell) (by omega)).mono ?_; rintro e w' ⟨rfl, rfl⟩) | (go_at_call 27; refine (len_ok _ t _ (by go_cell) (by omega) (by omega)).mono ?_; rintro e w' ⟨rfl, rfl⟩) | go_in)
              intro w1 hown1 hgrow1
              have hn := hI3.step hs (by omega) hown hown1 hgrow1
              have f0 := (World.cell?_of_block (w := wr) (w' := w1) (a := ⟨wq.heap.size, 0, none⟩) (hgrow1.block wq.heap.size (World.block_lt_of_cell? _ _ e0) (by simp; omega))).trans e0
              have f1 := (World.cell?_of_block (w := wr) (w' := w1) (a := ⟨wq.heap.size, 1, none⟩) (hgrow1.block wq.heap.size (World.block_lt_of_cell? _ _ e0) (by simp; omega))).trans e1
              have f2 := (World.cell?_of_block (w := wr) (w' := w1) (a := ⟨wq.heap.size, 2, none⟩) (hgrow1.block wq.heap.size (World.block_lt_of_cell? _ _ e0) (by simp; omega))).trans e2
              clear hs hown hown1 hgrow1
              go_wp2
              go_roundw
              case rel => exact ⟨2, by omega, rfl, hn, f0, f1, f2⟩
              case measure => simp [intOf]
            · go_wp2_with (first | (at_lookup; refine wpList_lookup_bool _ rfl _ _ 40 rfl 3 4 law Try.underlying40 Try.underlying4 (zeroB _) (w.heap.size + 1) _ D rfl hown (.int .i64 (B + 3 * (2 * ↑j + q) + 2)) (.int .i64 (B + 3 * (2 * ↑j + q) + 2)) rfl (keyOf_int_mk Try.underlying3 (by go_wf)) false (by rw [(hs.2 _).1]; congr 2; rw [decide_eq_false_iff_not]; omega) ?_) | (at_mapUpdate; refine wpList_mapUpdate_own _ rfl _ _ _ 40 rfl 3 4 law Try.underlying40 _ (w.heap.size + 1) _ D rfl hown (by unfold maxLen; omega) _ _ _ rfl rfl (keyOf_int_mk Try.underlying3 (by go_wf)) _ [] (plainElem_bool Try.underlying4 true) ?_) | (go_at_call 26; refine (base_ok _ B t _ (by go_cell) (by go_cell) (by omega)).mono ?_; rintro e w' ⟨rfl, rfl⟩) | (go_at_call 27; refine (len_ok _ t _ (by go_cell) (by omega) (by omega)).mono ?_; rintro e w' ⟨rfl, rfl⟩) | go_in)
              intro w1 hown1 hgrow1
              have hn := hI3.step hs (by omega) hown hown1 hgrow1
              have f0 := (World.cell?_of_block (w := wr) (w' := w1) (a := ⟨wq.heap.size, 0, none⟩) (hgrow1.block wq.heap.size (World.block_lt_of_cell? _ _ e0) (by simp; omega))).trans e0
              have f1 := (World.cell?_of_block (w := wr) (w' := w1) (a := ⟨wq.heap.size, 1, none⟩) (hgrow1.block wq.heap.size (World.block_lt_of_cell? _ _ e0) (by simp; omega))).trans e1
              have f2 := (World.cell?_of_block (w := wr) (w' := w1) (a := ⟨wq.heap.size, 2, none⟩) (hgrow1.block wq.heap.size (World.block_lt_of_cell? _ _ e0) (by simp; omega))).trans e2
              clear hs hown hown1 hgrow1
              go_wp2
              go_roundw
              case rel => exact ⟨3, by omega, rfl, hn, f0, f1, f2⟩
              case measure => simp [intOf]
            · go_wp2
              go_roundw
              case rel => exact ⟨q + 1, by omega, rfl, (show 6 * j + 3 * q.toNat + Int.toNat 3 = 6 * j + 3 * (q + 1).toNat from by omega) ▸ hI3⟩
              case measure => simp [intOf]; omega
        · obtain rfl : q = 2 := by omega
          go_wp2
          go_roundw
          case rel => exact ⟨j + 1, by omega, by go_num, (show 6 * j + 3 * Int.toNat 2 = 6 * (j + 1) from by omega) ▸ hI2⟩
          case measure => simp [intOf]; omega
    · obtain ⟨⟨D, hown, hs⟩, hb3, hc0', hc1'⟩ := id hI
      have hj2 : (j : Int) = t := by omega
      have hsz : ((Maps.size D : Nat) : Int) = 6 * t := by rw [hs.1]; omega
      have H := Lib.hid hsz
      clear hsz hs
      have hj3 := Lib.hid hj2
      clear hj2
      go_wp2_with (first | (go_at_call 10; refine (known_ok _).mono ?_; rintro e w' ⟨rfl, hg⟩) | (go_at_call 27; refine (len_ok _ t _ (by go_cell) (by omega) (by omega)).mono ?_; rintro e w' ⟨rfl, rfl⟩) | (at_len; refine wpList_len_own _ rfl _ 40 rfl 3 4 Try.underlying40 _ (w.heap.size + 1) _ D rfl hown ?_; rw [H.out]))
      go_ret
      exact ⟨rfl, hb3.trans (hg.mono hb3.size)⟩

theorem bad (B t : Int) (hh : B < 0 ∨ t < 1 ∨ 64 < t ∨ 65536 - t * 6 < B) (w : World) :
    Calls Try.prog 5 #[.int .i64 B, .int .i64 t] w fun e w' => e = .returned (.bool true) ∧ Below w.heap.size w w' := by
  go_enter Try.func5, Try.ntmps5
  go_wp2_with (first | (go_at_call 10; refine (known_ok _).mono ?_; rintro e w' ⟨rfl, hg⟩) | (go_at_call 11; refine (qnew_bad B t _ (by omega)).mono ?_; rintro e w' ⟨rfl, rfl⟩))
  go_ret
  exact ⟨rfl, by (repeat' (first | (with_reducible exact Below.refl _ _) | (with_reducible assumption) | (with_reducible refine Below.alloc ?_ ?_ _) | (with_reducible refine Below.drew ?_) | (with_reducible refine below_drewN ?_ _) | (with_reducible refine Below.setCell ?_ ?_ _) | (with_reducible refine Below.trans ?_ (Below.mono (by assumption) ?_)) | go_size))⟩

theorem walk (B t : Int) (w : World) :
    Calls Try.prog 5 #[.int .i64 B, .int .i64 t] w fun e w' => e = .returned (.bool true) ∧ Below w.heap.size w w' := by
  by_cases c : B < 0 ∨ t < 1 ∨ 64 < t ∨ 65536 - t * 6 < B
  · exact bad B t c w
  · exact good B t (by omega) (by omega) (by omega) (by omega) w
end QnodeHolds
end Go.Proofs.Ytjcoinedialafaa
