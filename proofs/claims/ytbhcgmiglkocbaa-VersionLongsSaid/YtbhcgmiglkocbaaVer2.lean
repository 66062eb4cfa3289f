/-
  Contracts of package version: a reader's step.
-/
import Derived.Test.YtbhcgmiglkocbaaVer
import Derived.IntWalk
namespace Go.Proofs.Ytbhcgmiglkocbaa
open Go.RowKit

theorem doE_zero {ws : List Int} {k i : Int} (h : doE ws k i = 0) : 0 ≤ i ∧ i < ws.length := by
  unfold doE at h
  by_cases h1 : k < 1 ∨ 4 < k
  · rw [if_pos h1] at h; omega
  · rw [if_neg h1] at h
    by_cases h2 : i < 0 ∨ (ws.length : Int) ≤ i
    · rw [if_pos h2] at h; omega
    · omega
theorem doB_bd {w : World} {b g c : Nat} {ws : List Int} (h : MemAt w b g c ws) (k i : Int) : 0 ≤ doB ws k i ∧ doB ws k i ≤ 18446744073709551615 := by
  unfold doB
  by_cases he : doE ws k i = 0
  · rw [if_pos he]
    have := doE_zero he
    exact h.wfAt (by omega)
  · rw [if_neg he]; omega
theorem own_blk_ne {w : World} {base n r : Nat} {e T : TypeId} {size : Nat} {v : Value} {xs cs : List Value} (h : w.ownsRow base e size v n xs) (hb : Blk w r T cs) (hT : T ≠ e) : v.ownBlock ≠ some r := by
  rcases h.2 with ⟨rfl, _⟩ | ⟨g, cap, cur, rfl, _, hh, _⟩
  · intro e; cases e
  · intro e
    injection e with e
    subst e
    unfold Blk at hb
    rw [hh] at hb
    injection hb with hb
    injection hb with _ hb
    exact hT hb.symm
def RdP (B : Nat) (w : World) (r : Nat) (v f n : Int) (b g c : Nat) (ws : List Int) (o : RO) (lv : Value) (e : Ending) (w' : World) : Prop :=
  ∃ lv', e = .returned (.tuple #[.bool o.wt, .int .i64 o.e]) ∧ RdAt B w' r v f n o.s lv' ∧ MemAt w' b g c ws ∧ Ch (fun j => j = r ∨ j = g ∨ lv.ownBlock = some j) w w' ∧
    (lv'.ownBlock = lv.ownBlock ∨ lv'.ownBlock = none ∨ ∃ k, lv'.ownBlock = some k ∧ w.heap.size ≤ k)
set_option maxRecDepth 100000 in
set_option maxHeartbeats 1000000 in
theorem rs_errA (B r : Nat) (v f n : Int) (s : Rs) (lv : Value) (b g c : Nat) (ws : List Int) (w : World) (h : RdAt B w r v f n s lv) (hm : MemAt w b g c ws) (hg : lv.ownBlock ≠ some g) (hed : s.ed = false) (hlk : s.lk = false) (hE : doE ws 1 (v) ≠ 0) :
    Calls Try.prog 25 #[.pointer (some ⟨r, 0, none⟩), memI b] w (RdP B w r v f n b g c ws ⟨s, false, doE ws 1 (v)⟩ lv) := by
  obtain ⟨A, cl, rfl, hcl, hzl⟩ := own_slice h.own
  have c0 : w.cell? ⟨r, 0, none⟩ = some (.bool true) := h.hd.cell 0
  have c1 : w.cell? ⟨r, 1, none⟩ = some (.int .i64 v) := h.hd.cell 1
  have c2 : w.cell? ⟨r, 2, none⟩ = some (.int .i64 f) := h.hd.cell 2
  have c3 : w.cell? ⟨r, 3, none⟩ = some (.int .i64 n) := h.hd.cell 3
  have c5 : w.cell? ⟨r, 5, none⟩ = some (.bool s.lk) := h.hd.cell 5
  have c7 : w.cell? ⟨r, 7, none⟩ = some (.slice A s.l.length cl) := h.hd.cell 7
  have c9 : w.cell? ⟨r, 9, none⟩ = some (.bool s.ed) := h.hd.cell 9
  rw [hed] at c9
  have z1 := nil_Load b
  have z2 := method_Load b
  have ok := h.ok
  have okv := ok.v0
  have okv1 := ok.v1
  have okn := ok.n0
  have okn1 := ok.n1
  have okl := h.ln
  have hrg : r ≠ g := by obtain ⟨sp, hr⟩ := hm.row; exact Blk.ne h.hd hr (by decide)
  have hX := doB_bd hm 1 (v)
  have hld := fun W hW => mload_any b g c ws (v) W hW
  generalize doB ws 1 (v) = X at *
  generalize doE ws 1 (v) = E at *
  rw [hlk] at c5
  have H := Lib.hid h
  have HM := Lib.hid hm
  have HG := Lib.hid hg
  have hed2 := hed
  clear h hm hg hed ok
  go_enter Try.func25, Try.ntmps25
  go_wp2_with (go_quiet (fail))
  refine (hld _ (HM.out.below (by (repeat' (first | (with_reducible exact Below.refl _ _) | (with_reducible assumption) | (with_reducible refine Below.alloc ?_ ?_ _) | (with_reducible refine Below.drew ?_) | (with_reducible refine below_drewN ?_ _) | (with_reducible refine Below.setCell ?_ ?_ _) | (with_reducible refine Below.trans ?_ (Below.mono (by assumption) ?_)) | (first | go_size | (with_reducible exact Below.size (by assumption)) | (with_reducible exact Nat.le_trans (Below.size (by assumption)) (Below.size (by assumption))) | (refine Nat.le_trans (Below.size (by assumption)) ?_; go_size))))))).mono ?_
  rintro e w1 ⟨rfl, hm1, hc1⟩
  have hC : Ch (fun j => j = g) w w1 := (Ch.of_below (show Below w.heap.size w _ by (repeat' (first | (with_reducible exact Below.refl _ _) | (with_reducible assumption) | (with_reducible refine Below.alloc ?_ ?_ _) | (with_reducible refine Below.drew ?_) | (with_reducible refine below_drewN ?_ _) | (with_reducible refine Below.setCell ?_ ?_ _) | (with_reducible refine Below.trans ?_ (Below.mono (by assumption) ?_)) | (first | go_size | (with_reducible exact Below.size (by assumption)) | (with_reducible exact Nat.le_trans (Below.size (by assumption)) (Below.size (by assumption))) | (refine Nat.le_trans (Below.size (by assumption)) ?_; go_size))))) _).trans hc1 (fun _ _ e => e)
  have h1 := H.out.keep hC hrg (fun k hk e => HG.out (by rw [hk, e]))
  have d0 : w1.cell? ⟨r, 0, none⟩ = some (.bool true) := h1.hd.cell 0
  have d3 : w1.cell? ⟨r, 3, none⟩ = some (.int .i64 n) := h1.hd.cell 3
  have d4 : w1.cell? ⟨r, 4, none⟩ = some (.int .i64 s.tr) := h1.hd.cell 4
  have d5 : w1.cell? ⟨r, 5, none⟩ = some (.bool s.lk) := h1.hd.cell 5
  have d6 : w1.cell? ⟨r, 6, none⟩ = some (.int .u64 s.fst) := h1.hd.cell 6
  have d7 : w1.cell? ⟨r, 7, none⟩ = some (.slice A s.l.length cl) := h1.hd.cell 7
  have d8 : w1.cell? ⟨r, 8, none⟩ = some (.int .u64 s.res) := h1.hd.cell 8
  have d9 : w1.cell? ⟨r, 9, none⟩ = some (.bool s.ed) := h1.hd.cell 9
  have hfz := fun i => h1.hd.frozen i
  clear c0 c1 c2 c3 c5 c7 c9 hld hc1 z1 z2
  have e1 : (E != 0) = true := by rw [bne_iff_ne]; exact hE
  rw [hlk] at d5
  clear hE hfz
  go_wp2_with fail
  go_ret2
  exact ⟨_, rfl, h1, hm1, hC.mono (fun _ _ e => .inr (.inl e)), .inl rfl⟩
set_option maxRecDepth 100000 in
set_option maxHeartbeats 1000000 in
theorem rs_errB (B r : Nat) (v f n : Int) (s : Rs) (lv : Value) (b g c : Nat) (ws : List Int) (w : World) (h : RdAt B w r v f n s lv) (hm : MemAt w b g c ws) (hg : lv.ownBlock ≠ some g) (hed : s.ed = false) (hlk : s.lk = true) (hlt : (s.l.length : Int) < n) (hE : doE ws 1 (f + (s.l.length : Int)) ≠ 0) :
    Calls Try.prog 25 #[.pointer (some ⟨r, 0, none⟩), memI b] w (RdP B w r v f n b g c ws ⟨s, false, doE ws 1 (f + (s.l.length : Int))⟩ lv) := by
  obtain ⟨A, cl, rfl, hcl, hzl⟩ := own_slice h.own
  have c0 : w.cell? ⟨r, 0, none⟩ = some (.bool true) := h.hd.cell 0
  have c1 : w.cell? ⟨r, 1, none⟩ = some (.int .i64 v) := h.hd.cell 1
  have c2 : w.cell? ⟨r, 2, none⟩ = some (.int .i64 f) := h.hd.cell 2
  have c3 : w.cell? ⟨r, 3, none⟩ = some (.int .i64 n) := h.hd.cell 3
  have c5 : w.cell? ⟨r, 5, none⟩ = some (.bool s.lk) := h.hd.cell 5
  have c7 : w.cell? ⟨r, 7, none⟩ = some (.slice A s.l.length cl) := h.hd.cell 7
  have c9 : w.cell? ⟨r, 9, none⟩ = some (.bool s.ed) := h.hd.cell 9
  rw [hed] at c9
  have z1 := nil_Load b
  have z2 := method_Load b
  have ok := h.ok
  have okv := ok.v0
  have okv1 := ok.v1
  have okn := ok.n0
  have okn1 := ok.n1
  have okl := h.ln
  have hrg : r ≠ g := by obtain ⟨sp, hr⟩ := hm.row; exact Blk.ne h.hd hr (by decide)
  have hX := doB_bd hm 1 (f + (s.l.length : Int))
  have hld := fun W hW => mload_any b g c ws (f + (s.l.length : Int)) W hW
  generalize doB ws 1 (f + (s.l.length : Int)) = X at *
  generalize doE ws 1 (f + (s.l.length : Int)) = E at *
  rw [hlk] at c5
  have hlt2 : (s.l.length : Int) < n := hlt
  have fr := h.ok.fr (by omega)
  have dl : decide ((s.l.length : Int) < n) = true := decide_eq_true hlt
  have sw : IntKind.i64.wrap (f + (s.l.length : Int)) = f + (s.l.length : Int) := IntWalk.i64_in _ (by omega)
  clear hlt
  have H := Lib.hid h
  have HM := Lib.hid hm
  have HG := Lib.hid hg
  have hed2 := hed
  clear h hm hg hed ok
  go_enter Try.func25, Try.ntmps25
  go_wp2_with (go_quiet (fail))
  refine (hld _ (HM.out.below (by (repeat' (first | (with_reducible exact Below.refl _ _) | (with_reducible assumption) | (with_reducible refine Below.alloc ?_ ?_ _) | (with_reducible refine Below.drew ?_) | (with_reducible refine below_drewN ?_ _) | (with_reducible refine Below.setCell ?_ ?_ _) | (with_reducible refine Below.trans ?_ (Below.mono (by assumption) ?_)) | (first | go_size | (with_reducible exact Below.size (by assumption)) | (with_reducible exact Nat.le_trans (Below.size (by assumption)) (Below.size (by assumption))) | (refine Nat.le_trans (Below.size (by assumption)) ?_; go_size))))))).mono ?_
  rintro e w1 ⟨rfl, hm1, hc1⟩
  have hC : Ch (fun j => j = g) w w1 := (Ch.of_below (show Below w.heap.size w _ by (repeat' (first | (with_reducible exact Below.refl _ _) | (with_reducible assumption) | (with_reducible refine Below.alloc ?_ ?_ _) | (with_reducible refine Below.drew ?_) | (with_reducible refine below_drewN ?_ _) | (with_reducible refine Below.setCell ?_ ?_ _) | (with_reducible refine Below.trans ?_ (Below.mono (by assumption) ?_)) | (first | go_size | (with_reducible exact Below.size (by assumption)) | (with_reducible exact Nat.le_trans (Below.size (by assumption)) (Below.size (by assumption))) | (refine Nat.le_trans (Below.size (by assumption)) ?_; go_size))))) _).trans hc1 (fun _ _ e => e)
  have h1 := H.out.keep hC hrg (fun k hk e => HG.out (by rw [hk, e]))
  have d0 : w1.cell? ⟨r, 0, none⟩ = some (.bool true) := h1.hd.cell 0
  have d3 : w1.cell? ⟨r, 3, none⟩ = some (.int .i64 n) := h1.hd.cell 3
  have d4 : w1.cell? ⟨r, 4, none⟩ = some (.int .i64 s.tr) := h1.hd.cell 4
  have d5 : w1.cell? ⟨r, 5, none⟩ = some (.bool s.lk) := h1.hd.cell 5
  have d6 : w1.cell? ⟨r, 6, none⟩ = some (.int .u64 s.fst) := h1.hd.cell 6
  have d7 : w1.cell? ⟨r, 7, none⟩ = some (.slice A s.l.length cl) := h1.hd.cell 7
  have d8 : w1.cell? ⟨r, 8, none⟩ = some (.int .u64 s.res) := h1.hd.cell 8
  have d9 : w1.cell? ⟨r, 9, none⟩ = some (.bool s.ed) := h1.hd.cell 9
  have hfz := fun i => h1.hd.frozen i
  clear c0 c1 c2 c3 c5 c7 c9 hld hc1 z1 z2
  have e1 : (E != 0) = true := by rw [bne_iff_ne]; exact hE
  rw [hlk] at d5
  clear hE hfz
  go_wp2_with fail
  go_ret2
  exact ⟨_, rfl, h1, hm1, hC.mono (fun _ _ e => .inr (.inl e)), .inl rfl⟩
set_option maxRecDepth 100000 in
set_option maxHeartbeats 1000000 in
theorem rs_errC (B r : Nat) (v f n : Int) (s : Rs) (lv : Value) (b g c : Nat) (ws : List Int) (w : World) (h : RdAt B w r v f n s lv) (hm : MemAt w b g c ws) (hg : lv.ownBlock ≠ some g) (hed : s.ed = false) (hlk : s.lk = true) (hlt : ¬ (s.l.length : Int) < n) (hE : doE ws 1 (v) ≠ 0) :
    Calls Try.prog 25 #[.pointer (some ⟨r, 0, none⟩), memI b] w (RdP B w r v f n b g c ws ⟨s, false, doE ws 1 (v)⟩ lv) := by
  obtain ⟨A, cl, rfl, hcl, hzl⟩ := own_slice h.own
  have c0 : w.cell? ⟨r, 0, none⟩ = some (.bool true) := h.hd.cell 0
  have c1 : w.cell? ⟨r, 1, none⟩ = some (.int .i64 v) := h.hd.cell 1
  have c2 : w.cell? ⟨r, 2, none⟩ = some (.int .i64 f) := h.hd.cell 2
  have c3 : w.cell? ⟨r, 3, none⟩ = some (.int .i64 n) := h.hd.cell 3
  have c5 : w.cell? ⟨r, 5, none⟩ = some (.bool s.lk) := h.hd.cell 5
  have c7 : w.cell? ⟨r, 7, none⟩ = some (.slice A s.l.length cl) := h.hd.cell 7
  have c9 : w.cell? ⟨r, 9, none⟩ = some (.bool s.ed) := h.hd.cell 9
  rw [hed] at c9
  have z1 := nil_Load b
  have z2 := method_Load b
  have ok := h.ok
  have okv := ok.v0
  have okv1 := ok.v1
  have okn := ok.n0
  have okn1 := ok.n1
  have okl := h.ln
  have hrg : r ≠ g := by obtain ⟨sp, hr⟩ := hm.row; exact Blk.ne h.hd hr (by decide)
  have hX := doB_bd hm 1 (v)
  have hld := fun W hW => mload_any b g c ws (v) W hW
  generalize doB ws 1 (v) = X at *
  generalize doE ws 1 (v) = E at *
  rw [hlk] at c5
  have dl : decide ((s.l.length : Int) < n) = false := decide_eq_false hlt
  clear hlt
  have H := Lib.hid h
  have HM := Lib.hid hm
  have HG := Lib.hid hg
  have hed2 := hed
  clear h hm hg hed ok
  go_enter Try.func25, Try.ntmps25
  go_wp2_with (go_quiet (fail))
  refine (hld _ (HM.out.below (by (repeat' (first | (with_reducible exact Below.refl _ _) | (with_reducible assumption) | (with_reducible refine Below.alloc ?_ ?_ _) | (with_reducible refine Below.drew ?_) | (with_reducible refine below_drewN ?_ _) | (with_reducible refine Below.setCell ?_ ?_ _) | (with_reducible refine Below.trans ?_ (Below.mono (by assumption) ?_)) | (first | go_size | (with_reducible exact Below.size (by assumption)) | (with_reducible exact Nat.le_trans (Below.size (by assumption)) (Below.size (by assumption))) | (refine Nat.le_trans (Below.size (by assumption)) ?_; go_size))))))).mono ?_
  rintro e w1 ⟨rfl, hm1, hc1⟩
  have hC : Ch (fun j => j = g) w w1 := (Ch.of_below (show Below w.heap.size w _ by (repeat' (first | (with_reducible exact Below.refl _ _) | (with_reducible assumption) | (with_reducible refine Below.alloc ?_ ?_ _) | (with_reducible refine Below.drew ?_) | (with_reducible refine below_drewN ?_ _) | (with_reducible refine Below.setCell ?_ ?_ _) | (with_reducible refine Below.trans ?_ (Below.mono (by assumption) ?_)) | (first | go_size | (with_reducible exact Below.size (by assumption)) | (with_reducible exact Nat.le_trans (Below.size (by assumption)) (Below.size (by assumption))) | (refine Nat.le_trans (Below.size (by assumption)) ?_; go_size))))) _).trans hc1 (fun _ _ e => e)
  have h1 := H.out.keep hC hrg (fun k hk e => HG.out (by rw [hk, e]))
  have d0 : w1.cell? ⟨r, 0, none⟩ = some (.bool true) := h1.hd.cell 0
  have d3 : w1.cell? ⟨r, 3, none⟩ = some (.int .i64 n) := h1.hd.cell 3
  have d4 : w1.cell? ⟨r, 4, none⟩ = some (.int .i64 s.tr) := h1.hd.cell 4
  have d5 : w1.cell? ⟨r, 5, none⟩ = some (.bool s.lk) := h1.hd.cell 5
  have d6 : w1.cell? ⟨r, 6, none⟩ = some (.int .u64 s.fst) := h1.hd.cell 6
  have d7 : w1.cell? ⟨r, 7, none⟩ = some (.slice A s.l.length cl) := h1.hd.cell 7
  have d8 : w1.cell? ⟨r, 8, none⟩ = some (.int .u64 s.res) := h1.hd.cell 8
  have d9 : w1.cell? ⟨r, 9, none⟩ = some (.bool s.ed) := h1.hd.cell 9
  have hfz := fun i => h1.hd.frozen i
  clear c0 c1 c2 c3 c5 c7 c9 hld hc1 z1 z2
  have e1 : (E != 0) = true := by rw [bne_iff_ne]; exact hE
  rw [hlk] at d5
  clear hE hfz
  go_wp2_with fail
  go_ret2
  exact ⟨_, rfl, h1, hm1, hC.mono (fun _ _ e => .inr (.inl e)), .inl rfl⟩
set_option maxRecDepth 100000 in
set_option maxHeartbeats 1000000 in
theorem rs_wait (B r : Nat) (v f n : Int) (s : Rs) (lv : Value) (b g c : Nat) (ws : List Int) (w : World) (h : RdAt B w r v f n s lv) (hm : MemAt w b g c ws) (hg : lv.ownBlock ≠ some g) (hed : s.ed = false) (hlk : s.lk = false) (hE : doE ws 1 v = 0) (hx : doB ws 1 v % 2 = 1) :
    Calls Try.prog 25 #[.pointer (some ⟨r, 0, none⟩), memI b] w (RdP B w r v f n b g c ws ⟨s, true, 0⟩ lv) := by
  obtain ⟨A, cl, rfl, hcl, hzl⟩ := own_slice h.own
  have c0 : w.cell? ⟨r, 0, none⟩ = some (.bool true) := h.hd.cell 0
  have c1 : w.cell? ⟨r, 1, none⟩ = some (.int .i64 v) := h.hd.cell 1
  have c2 : w.cell? ⟨r, 2, none⟩ = some (.int .i64 f) := h.hd.cell 2
  have c3 : w.cell? ⟨r, 3, none⟩ = some (.int .i64 n) := h.hd.cell 3
  have c5 : w.cell? ⟨r, 5, none⟩ = some (.bool s.lk) := h.hd.cell 5
  have c7 : w.cell? ⟨r, 7, none⟩ = some (.slice A s.l.length cl) := h.hd.cell 7
  have c9 : w.cell? ⟨r, 9, none⟩ = some (.bool s.ed) := h.hd.cell 9
  rw [hed] at c9
  have z1 := nil_Load b
  have z2 := method_Load b
  have ok := h.ok
  have okv := ok.v0
  have okv1 := ok.v1
  have okn := ok.n0
  have okn1 := ok.n1
  have okl := h.ln
  have hrg : r ≠ g := by obtain ⟨sp, hr⟩ := hm.row; exact Blk.ne h.hd hr (by decide)
  have hX := doB_bd hm 1 (v)
  have hld := fun W hW => mload_any b g c ws (v) W hW
  generalize doB ws 1 (v) = X at *
  generalize doE ws 1 (v) = E at *
  rw [hlk] at c5
  have H := Lib.hid h
  have HM := Lib.hid hm
  have HG := Lib.hid hg
  have hed2 := hed
  clear h hm hg hed ok
  go_enter Try.func25, Try.ntmps25
  go_wp2_with (go_quiet (fail))
  refine (hld _ (HM.out.below (by (repeat' (first | (with_reducible exact Below.refl _ _) | (with_reducible assumption) | (with_reducible refine Below.alloc ?_ ?_ _) | (with_reducible refine Below.drew ?_) | (with_reducible refine below_drewN ?_ _) | (with_reducible refine Below.setCell ?_ ?_ _) | (with_reducible refine Below.trans ?_ (Below.mono (by assumption) ?_)) | (first | go_size | (with_reducible exact Below.size (by assumption)) | (with_reducible exact Nat.le_trans (Below.size (by assumption)) (Below.size (by assumption))) | (refine Nat.le_trans (Below.size (by assumption)) ?_; go_size))))))).mono ?_
  rintro e w1 ⟨rfl, hm1, hc1⟩
  have hC : Ch (fun j => j = g) w w1 := (Ch.of_below (show Below w.heap.size w _ by (repeat' (first | (with_reducible exact Below.refl _ _) | (with_reducible assumption) | (with_reducible refine Below.alloc ?_ ?_ _) | (with_reducible refine Below.drew ?_) | (with_reducible refine below_drewN ?_ _) | (with_reducible refine Below.setCell ?_ ?_ _) | (with_reducible refine Below.trans ?_ (Below.mono (by assumption) ?_)) | (first | go_size | (with_reducible exact Below.size (by assumption)) | (with_reducible exact Nat.le_trans (Below.size (by assumption)) (Below.size (by assumption))) | (refine Nat.le_trans (Below.size (by assumption)) ?_; go_size))))) _).trans hc1 (fun _ _ e => e)
  have h1 := H.out.keep hC hrg (fun k hk e => HG.out (by rw [hk, e]))
  have d0 : w1.cell? ⟨r, 0, none⟩ = some (.bool true) := h1.hd.cell 0
  have d3 : w1.cell? ⟨r, 3, none⟩ = some (.int .i64 n) := h1.hd.cell 3
  have d4 : w1.cell? ⟨r, 4, none⟩ = some (.int .i64 s.tr) := h1.hd.cell 4
  have d5 : w1.cell? ⟨r, 5, none⟩ = some (.bool s.lk) := h1.hd.cell 5
  have d6 : w1.cell? ⟨r, 6, none⟩ = some (.int .u64 s.fst) := h1.hd.cell 6
  have d7 : w1.cell? ⟨r, 7, none⟩ = some (.slice A s.l.length cl) := h1.hd.cell 7
  have d8 : w1.cell? ⟨r, 8, none⟩ = some (.int .u64 s.res) := h1.hd.cell 8
  have d9 : w1.cell? ⟨r, 9, none⟩ = some (.bool s.ed) := h1.hd.cell 9
  have hfz := fun i => h1.hd.frozen i
  clear c0 c1 c2 c3 c5 c7 c9 hld hc1 z1 z2
  have e1 : (E != 0) = false := by rw [hE]; rfl
  have e2 : (X % 2 == 0) = false := by rw [beq_eq_false_iff_ne]; omega
  rw [hlk] at d5
  clear hE hx hfz
  go_wp2_with (go_at_call 9; refine (even_any X _ hX.1).mono ?_; rintro e w' ⟨rfl, rfl⟩)
  go_ret2
  exact ⟨_, rfl, h1, hm1, hC.mono (fun _ _ e => .inr (.inl e)), .inl rfl⟩
set_option maxRecDepth 100000 in
set_option maxHeartbeats 1000000 in
theorem rs_look (B r : Nat) (v f n : Int) (s : Rs) (lv : Value) (b g c : Nat) (ws : List Int) (w : World) (h : RdAt B w r v f n s lv) (hm : MemAt w b g c ws) (hg : lv.ownBlock ≠ some g) (hed : s.ed = false) (hlk : s.lk = false) (hE : doE ws 1 v = 0) (hx : doB ws 1 v % 2 = 0) :
    Calls Try.prog 25 #[.pointer (some ⟨r, 0, none⟩), memI b] w (RdP B w r v f n b g c ws ⟨{ s with lk := true, fst := doB ws 1 v }, false, 0⟩ lv) := by
  obtain ⟨A, cl, rfl, hcl, hzl⟩ := own_slice h.own
  have c0 : w.cell? ⟨r, 0, none⟩ = some (.bool true) := h.hd.cell 0
  have c1 : w.cell? ⟨r, 1, none⟩ = some (.int .i64 v) := h.hd.cell 1
  have c2 : w.cell? ⟨r, 2, none⟩ = some (.int .i64 f) := h.hd.cell 2
  have c3 : w.cell? ⟨r, 3, none⟩ = some (.int .i64 n) := h.hd.cell 3
  have c5 : w.cell? ⟨r, 5, none⟩ = some (.bool s.lk) := h.hd.cell 5
  have c7 : w.cell? ⟨r, 7, none⟩ = some (.slice A s.l.length cl) := h.hd.cell 7
  have c9 : w.cell? ⟨r, 9, none⟩ = some (.bool s.ed) := h.hd.cell 9
  rw [hed] at c9
  have z1 := nil_Load b
  have z2 := method_Load b
  have ok := h.ok
  have okv := ok.v0
  have okv1 := ok.v1
  have okn := ok.n0
  have okn1 := ok.n1
  have okl := h.ln
  have hrg : r ≠ g := by obtain ⟨sp, hr⟩ := hm.row; exact Blk.ne h.hd hr (by decide)
  have hX := doB_bd hm 1 (v)
  have hld := fun W hW => mload_any b g c ws (v) W hW
  generalize doB ws 1 (v) = X at *
  generalize doE ws 1 (v) = E at *
  rw [hlk] at c5
  have H := Lib.hid h
  have HM := Lib.hid hm
  have HG := Lib.hid hg
  have hed2 := hed
  clear h hm hg hed ok
  go_enter Try.func25, Try.ntmps25
  go_wp2_with (go_quiet (fail))
  refine (hld _ (HM.out.below (by (repeat' (first | (with_reducible exact Below.refl _ _) | (with_reducible assumption) | (with_reducible refine Below.alloc ?_ ?_ _) | (with_reducible refine Below.drew ?_) | (with_reducible refine below_drewN ?_ _) | (with_reducible refine Below.setCell ?_ ?_ _) | (with_reducible refine Below.trans ?_ (Below.mono (by assumption) ?_)) | (first | go_size | (with_reducible exact Below.size (by assumption)) | (with_reducible exact Nat.le_trans (Below.size (by assumption)) (Below.size (by assumption))) | (refine Nat.le_trans (Below.size (by assumption)) ?_; go_size))))))).mono ?_
  rintro e w1 ⟨rfl, hm1, hc1⟩
  have hC : Ch (fun j => j = g) w w1 := (Ch.of_below (show Below w.heap.size w _ by (repeat' (first | (with_reducible exact Below.refl _ _) | (with_reducible assumption) | (with_reducible refine Below.alloc ?_ ?_ _) | (with_reducible refine Below.drew ?_) | (with_reducible refine below_drewN ?_ _) | (with_reducible refine Below.setCell ?_ ?_ _) | (with_reducible refine Below.trans ?_ (Below.mono (by assumption) ?_)) | (first | go_size | (with_reducible exact Below.size (by assumption)) | (with_reducible exact Nat.le_trans (Below.size (by assumption)) (Below.size (by assumption))) | (refine Nat.le_trans (Below.size (by assumption)) ?_; go_size))))) _).trans hc1 (fun _ _ e => e)
  have h1 := H.out.keep hC hrg (fun k hk e => HG.out (by rw [hk, e]))
  have d0 : w1.cell? ⟨r, 0, none⟩ = some (.bool true) := h1.hd.cell 0
  have d3 : w1.cell? ⟨r, 3, none⟩ = some (.int .i64 n) := h1.hd.cell 3
  have d4 : w1.cell? ⟨r, 4, none⟩ = some (.int .i64 s.tr) := h1.hd.cell 4
  have d5 : w1.cell? ⟨r, 5, none⟩ = some (.bool s.lk) := h1.hd.cell 5
  have d6 : w1.cell? ⟨r, 6, none⟩ = some (.int .u64 s.fst) := h1.hd.cell 6
  have d7 : w1.cell? ⟨r, 7, none⟩ = some (.slice A s.l.length cl) := h1.hd.cell 7
  have d8 : w1.cell? ⟨r, 8, none⟩ = some (.int .u64 s.res) := h1.hd.cell 8
  have d9 : w1.cell? ⟨r, 9, none⟩ = some (.bool s.ed) := h1.hd.cell 9
  have hfz := fun i => h1.hd.frozen i
  clear c0 c1 c2 c3 c5 c7 c9 hld hc1 z1 z2
  have e1 : (E != 0) = false := by rw [hE]; rfl
  have e2 : (X % 2 == 0) = true := by rw [beq_iff_eq]; exact hx
  rw [hlk] at d5
  clear hE hx
  have f5 := hfz 5
  have f6 := hfz 6
  have h1q := fun q => h1.below (below_drewN (Below.refl w1.heap.size w1) q)
  have hno := own_blk_ne h1.own h1.hd (by decide)
  have hCq := fun q => (show Ch (fun j => j = r) (w1.drewN q) (((w1.drewN q).setCell ⟨r, 5, none⟩ (.bool true)).setCell ⟨r, 6, none⟩ (.int .u64 X)) from ((Ch.refl (fun j => j = r) (w1.drewN q)).setCell (p := ⟨r, 5, none⟩) (.inl rfl) (.bool true)).setCell (p := ⟨r, 6, none⟩) (.inl rfl) (.int .u64 X))
  have hmr : ∀ q, MemAt (((w1.drewN q).setCell ⟨r, 5, none⟩ (.bool true)).setCell ⟨r, 6, none⟩ (.int .u64 X)) b g c ws := fun q => (hm1.below (below_drewN (Below.refl w1.heap.size w1) q)).keep (hCq q) (fun e => Blk.ne hm1.hd h1.hd (by decide) e) (fun e => hrg e.symm)
  have hch : ∀ q, Ch (fun j => j = r ∨ j = g ∨ (Value.slice A s.l.length cl).ownBlock = some j) w (((w1.drewN q).setCell ⟨r, 5, none⟩ (.bool true)).setCell ⟨r, 6, none⟩ (.int .u64 X)) := fun q => ((hC.mono (G := fun j => j = r ∨ j = g ∨ (Value.slice A s.l.length cl).ownBlock = some j) (fun _ _ e => .inr (.inl e))).drewN q).trans (hCq q) (fun _ _ e => .inl e)
  have hfin : ∀ q, ∃ lv', (lv'.ownBlock = (Value.slice A s.l.length cl).ownBlock ∨ lv'.ownBlock = none) ∧ RdAt B (((w1.drewN q).setCell ⟨r, 5, none⟩ (.bool true)).setCell ⟨r, 6, none⟩ (.int .u64 X)) r v f n { s with lk := true, fst := X } lv' := fun q => by
    have hs := (((h1q q).hd).set 5 (.bool true)).set 6 (.int .u64 X)
    have hz := (hCq q).size
    exact ⟨_, .inl rfl, hs, own_keep (h1q q).own (hCq q) (fun k hk _ e => hno (by rw [hk, e])), h1.tr0, h1.tr1, h1.go, h1.ok, h1.ln, hX, Nat.le_trans (h1q q).sz hz⟩
  have HF := Lib.hid hfin
  have HR := Lib.hid hmr
  have HC := Lib.hid hch
  clear hfz hno hmr hch hfin hC h1 hm1 h1q hCq
  go_wp2_with (first | (go_at_call 9; refine (even_any X _ hX.1).mono ?_; rintro e w' ⟨rfl, rfl⟩))
  go_ret2
  first
    | (obtain ⟨lv', k1, k2⟩ := HF.out nq; exact ⟨lv', rfl, k2, HR.out nq, HC.out nq, by rcases k1 with k | k; exact .inl k; exact .inr (.inl k)⟩)
    | (obtain ⟨lv', k1, k2⟩ := HF.out 0; exact ⟨lv', rfl, k2, HR.out 0, HC.out 0, by rcases k1 with k | k; exact .inl k; exact .inr (.inl k)⟩)
set_option maxRecDepth 100000 in
set_option maxHeartbeats 1000000 in
theorem rs_read (B r : Nat) (v f n : Int) (s : Rs) (lv : Value) (b g c : Nat) (ws : List Int) (w : World) (h : RdAt B w r v f n s lv) (hm : MemAt w b g c ws) (hg : lv.ownBlock ≠ some g) (hed : s.ed = false) (hlk : s.lk = true) (hlt : (s.l.length : Int) < n) (hE : doE ws 1 (f + (s.l.length : Int)) = 0) :
    Calls Try.prog 25 #[.pointer (some ⟨r, 0, none⟩), memI b] w (RdP B w r v f n b g c ws ⟨{ s with l := s.l ++ [doB ws 1 (f + (s.l.length : Int))] }, false, 0⟩ lv) := by
  obtain ⟨A, cl, rfl, hcl, hzl⟩ := own_slice h.own
  have c0 : w.cell? ⟨r, 0, none⟩ = some (.bool true) := h.hd.cell 0
  have c1 : w.cell? ⟨r, 1, none⟩ = some (.int .i64 v) := h.hd.cell 1
  have c2 : w.cell? ⟨r, 2, none⟩ = some (.int .i64 f) := h.hd.cell 2
  have c3 : w.cell? ⟨r, 3, none⟩ = some (.int .i64 n) := h.hd.cell 3
  have c5 : w.cell? ⟨r, 5, none⟩ = some (.bool s.lk) := h.hd.cell 5
  have c7 : w.cell? ⟨r, 7, none⟩ = some (.slice A s.l.length cl) := h.hd.cell 7
  have c9 : w.cell? ⟨r, 9, none⟩ = some (.bool s.ed) := h.hd.cell 9
  rw [hed] at c9
  have z1 := nil_Load b
  have z2 := method_Load b
  have ok := h.ok
  have okv := ok.v0
  have okv1 := ok.v1
  have okn := ok.n0
  have okn1 := ok.n1
  have okl := h.ln
  have hrg : r ≠ g := by obtain ⟨sp, hr⟩ := hm.row; exact Blk.ne h.hd hr (by decide)
  have hX := doB_bd hm 1 (f + (s.l.length : Int))
  have hld := fun W hW => mload_any b g c ws (f + (s.l.length : Int)) W hW
  generalize doB ws 1 (f + (s.l.length : Int)) = X at *
  generalize doE ws 1 (f + (s.l.length : Int)) = E at *
  rw [hlk] at c5
  have hlt2 : (s.l.length : Int) < n := hlt
  have fr := h.ok.fr (by omega)
  have dl : decide ((s.l.length : Int) < n) = true := decide_eq_true hlt
  have sw : IntKind.i64.wrap (f + (s.l.length : Int)) = f + (s.l.length : Int) := IntWalk.i64_in _ (by omega)
  clear hlt
  have H := Lib.hid h
  have HM := Lib.hid hm
  have HG := Lib.hid hg
  have hed2 := hed
  clear h hm hg hed ok
  go_enter Try.func25, Try.ntmps25
  go_wp2_with (go_quiet (fail))
  refine (hld _ (HM.out.below (by (repeat' (first | (with_reducible exact Below.refl _ _) | (with_reducible assumption) | (with_reducible refine Below.alloc ?_ ?_ _) | (with_reducible refine Below.drew ?_) | (with_reducible refine below_drewN ?_ _) | (with_reducible refine Below.setCell ?_ ?_ _) | (with_reducible refine Below.trans ?_ (Below.mono (by assumption) ?_)) | (first | go_size | (with_reducible exact Below.size (by assumption)) | (with_reducible exact Nat.le_trans (Below.size (by assumption)) (Below.size (by assumption))) | (refine Nat.le_trans (Below.size (by assumption)) ?_; go_size))))))).mono ?_
  rintro e w1 ⟨rfl, hm1, hc1⟩
  have hC : Ch (fun j => j = g) w w1 := (Ch.of_below (show Below w.heap.size w _ by (repeat' (first | (with_reducible exact Below.refl _ _) | (with_reducible assumption) | (with_reducible refine Below.alloc ?_ ?_ _) | (with_reducible refine Below.drew ?_) | (with_reducible refine below_drewN ?_ _) | (with_reducible refine Below.setCell ?_ ?_ _) | (with_reducible refine Below.trans ?_ (Below.mono (by assumption) ?_)) | (first | go_size | (with_reducible exact Below.size (by assumption)) | (with_reducible exact Nat.le_trans (Below.size (by assumption)) (Below.size (by assumption))) | (refine Nat.le_trans (Below.size (by assumption)) ?_; go_size))))) _).trans hc1 (fun _ _ e => e)
  have h1 := H.out.keep hC hrg (fun k hk e => HG.out (by rw [hk, e]))
  have d0 : w1.cell? ⟨r, 0, none⟩ = some (.bool true) := h1.hd.cell 0
  have d3 : w1.cell? ⟨r, 3, none⟩ = some (.int .i64 n) := h1.hd.cell 3
  have d4 : w1.cell? ⟨r, 4, none⟩ = some (.int .i64 s.tr) := h1.hd.cell 4
  have d5 : w1.cell? ⟨r, 5, none⟩ = some (.bool s.lk) := h1.hd.cell 5
  have d6 : w1.cell? ⟨r, 6, none⟩ = some (.int .u64 s.fst) := h1.hd.cell 6
  have d7 : w1.cell? ⟨r, 7, none⟩ = some (.slice A s.l.length cl) := h1.hd.cell 7
  have d8 : w1.cell? ⟨r, 8, none⟩ = some (.int .u64 s.res) := h1.hd.cell 8
  have d9 : w1.cell? ⟨r, 9, none⟩ = some (.bool s.ed) := h1.hd.cell 9
  have hfz := fun i => h1.hd.frozen i
  clear c0 c1 c2 c3 c5 c7 c9 hld hc1 z1 z2
  have e1 : (E != 0) = false := by rw [hE]; rfl
  rw [hlk] at d5
  clear hE
  obtain ⟨i0, hi0, hz0, hz1, hz2⟩ := info_parts u64Info
  have hown := h1.own
  have hno := own_blk_ne h1.own h1.hd (by decide)
  have hnb := own_blk_ne h1.own hm1.hd (by decide)
  have hll : s.l.length ≤ 256 := by omega
  have hgg := HG.out
  have hBz := h1.sz
  have H1 := Lib.hid h1
  have HM1 := Lib.hid hm1
  have HFZ := Lib.hid hfz
  clear h1 hm1 hfz
  go_wp2_with (first | (go_quiet (fail)) | (at_builtin; refine wpList_append_rd _ rfl _ _ _ rfl B 22 i0 _ 1 8 Try.underlying23 hi0 hz0 hz1 hz2 rfl (by omega) _ _ _ rfl (own_keep (own_keep hown ((Ch.refl (fun _ => False) _).drewN _) (fun _ _ _ e => e)) ((Ch.refl (fun _ => False) _).alloc _) (fun _ _ _ e => e)) (some ⟨_, 0, none⟩) 1 1 [.int .u64 X] rfl (Rd.of_blk (G := fun _ => True) (Blk.new _ _ [.int .u64 X]) (List.prefix_refl _) trivial) (fun h => by cases h) rfl (by simp [Value.oneCell']) (by unfold maxLen; omega) (by omega) (by simp; omega) ?_))
  intro v3 w3 hown3 hch3 hat3
  have hx := Ch.trans (Ch.of_below (show Below w1.heap.size w1 _ by (repeat' (first | (with_reducible exact Below.refl _ _) | (with_reducible assumption) | (with_reducible refine Below.alloc ?_ ?_ _) | (with_reducible refine Below.drew ?_) | (with_reducible refine below_drewN ?_ _) | (with_reducible refine Below.setCell ?_ ?_ _) | (with_reducible refine Below.trans ?_ (Below.mono (by assumption) ?_)) | (first | go_size | (with_reducible exact Below.size (by assumption)) | (with_reducible exact Nat.le_trans (Below.size (by assumption)) (Below.size (by assumption))) | (refine Nat.le_trans (Below.size (by assumption)) ?_; go_size))))) (fun k => (Value.slice A s.l.length cl).ownBlock = some k)) hch3 (fun _ _ e => e)
  have h3 := H1.out.hd.keep hx (fun e => hno e)
  have m3 := HM1.out.keep hx (fun e => hnb e) (fun e => hgg e)
  have hno3 := own_blk_ne hown3 h3 (by decide)
  have hsz3 := hx.size
  obtain ⟨A3, c3, rfl, hc3, _⟩ := own_slice hown3
  have d7 : w3.cell? ⟨r, 7, none⟩ = some (.slice A s.l.length cl) := h3.cell 7
  have f7 := h3.frozen 7
  have hs := h3.set 7 (.slice A3 (s.l.length + 1) c3)
  have hC2 : Ch (fun j => j = r) w3 (w3.setCell ⟨r, 7, none⟩ (.slice A3 (s.l.length + 1) c3)) := (Ch.refl (fun j => j = r) w3).setCell (p := ⟨r, 7, none⟩) (.inl rfl) _
  have hmr := m3.keep hC2 (fun e => Blk.ne m3.hd h3 (by decide) e) (fun e => hrg e.symm)
  have hll2 : (s.l ++ [X]).length = s.l.length + 1 := by simp
  have hfin : RdAt B (w3.setCell ⟨r, 7, none⟩ (.slice A3 (s.l.length + 1) c3)) r v f n { s with l := s.l ++ [X] } (.slice A3 (s.l.length + 1) c3) :=
    ⟨hs, by
      have := own_keep hown3 hC2 (fun k hk _ e => hno3 (by rw [hk, e]))
      show World.ownsRow _ _ _ _ _ (s.l ++ [X]).length (u64s (s.l ++ [X]))
      rw [hll2]
      simpa [u64s] using this, H1.out.tr0, H1.out.tr1, H1.out.go, H1.out.ok, by show (((s.l ++ [X]).length : Nat) : Int) ≤ n; rw [hll2]; omega, H1.out.f0, by have := hC2.size; omega⟩
  have hch : Ch (fun j => j = r ∨ j = g ∨ (Value.slice A s.l.length cl).ownBlock = some j) w (w3.setCell ⟨r, 7, none⟩ (.slice A3 (s.l.length + 1) c3)) :=
    (((hC.mono (G := fun j => j = r ∨ j = g ∨ (Value.slice A s.l.length cl).ownBlock = some j) (fun _ _ e => .inr (.inl e))).trans hx (fun _ _ e => .inr (.inr e)))).trans hC2 (fun _ _ e => .inl e)
  have hat : (Value.slice A3 (s.l.length + 1) c3).ownBlock = (Value.slice A s.l.length cl).ownBlock ∨ (Value.slice A3 (s.l.length + 1) c3).ownBlock = none ∨ ∃ k, (Value.slice A3 (s.l.length + 1) c3).ownBlock = some k ∧ w.heap.size ≤ k := by
    rcases hat3 with h | h
    · exact .inl h
    · exact .inr (.inr ⟨_, h, by have := hC.size; simp; omega⟩)
  have HF := Lib.hid hfin
  have HR := Lib.hid hmr
  have HC := Lib.hid hch
  have HA := Lib.hid hat
  clear hfin hmr hch hat hx h3 m3 hno3 hs hC2 hown3 hch3 hat3 hC hown
  go_wp2_with fail
  go_ret2
  exact ⟨_, rfl, HF.out, HR.out, HC.out, HA.out⟩
set_option maxRecDepth 100000 in
set_option maxHeartbeats 1000000 in
theorem rs_right (B r : Nat) (v f n : Int) (s : Rs) (lv : Value) (b g c : Nat) (ws : List Int) (w : World) (h : RdAt B w r v f n s lv) (hm : MemAt w b g c ws) (hg : lv.ownBlock ≠ some g) (hed : s.ed = false) (hlk : s.lk = true) (hlt : ¬ (s.l.length : Int) < n) (hE : doE ws 1 v = 0) (hx : doB ws 1 v = s.fst) :
    Calls Try.prog 25 #[.pointer (some ⟨r, 0, none⟩), memI b] w (RdP B w r v f n b g c ws ⟨{ s with res := 1, ed := true }, false, 0⟩ lv) := by
  obtain ⟨A, cl, rfl, hcl, hzl⟩ := own_slice h.own
  have c0 : w.cell? ⟨r, 0, none⟩ = some (.bool true) := h.hd.cell 0
  have c1 : w.cell? ⟨r, 1, none⟩ = some (.int .i64 v) := h.hd.cell 1
  have c2 : w.cell? ⟨r, 2, none⟩ = some (.int .i64 f) := h.hd.cell 2
  have c3 : w.cell? ⟨r, 3, none⟩ = some (.int .i64 n) := h.hd.cell 3
  have c5 : w.cell? ⟨r, 5, none⟩ = some (.bool s.lk) := h.hd.cell 5
  have c7 : w.cell? ⟨r, 7, none⟩ = some (.slice A s.l.length cl) := h.hd.cell 7
  have c9 : w.cell? ⟨r, 9, none⟩ = some (.bool s.ed) := h.hd.cell 9
  rw [hed] at c9
  have z1 := nil_Load b
  have z2 := method_Load b
  have ok := h.ok
  have okv := ok.v0
  have okv1 := ok.v1
  have okn := ok.n0
  have okn1 := ok.n1
  have okl := h.ln
  have hrg : r ≠ g := by obtain ⟨sp, hr⟩ := hm.row; exact Blk.ne h.hd hr (by decide)
  have hX := doB_bd hm 1 (v)
  have hld := fun W hW => mload_any b g c ws (v) W hW
  generalize doB ws 1 (v) = X at *
  generalize doE ws 1 (v) = E at *
  rw [hlk] at c5
  have dl : decide ((s.l.length : Int) < n) = false := decide_eq_false hlt
  clear hlt
  have H := Lib.hid h
  have HM := Lib.hid hm
  have HG := Lib.hid hg
  have hed2 := hed
  clear h hm hg hed ok
  go_enter Try.func25, Try.ntmps25
  go_wp2_with (go_quiet (fail))
  refine (hld _ (HM.out.below (by (repeat' (first | (with_reducible exact Below.refl _ _) | (with_reducible assumption) | (with_reducible refine Below.alloc ?_ ?_ _) | (with_reducible refine Below.drew ?_) | (with_reducible refine below_drewN ?_ _) | (with_reducible refine Below.setCell ?_ ?_ _) | (with_reducible refine Below.trans ?_ (Below.mono (by assumption) ?_)) | (first | go_size | (with_reducible exact Below.size (by assumption)) | (with_reducible exact Nat.le_trans (Below.size (by assumption)) (Below.size (by assumption))) | (refine Nat.le_trans (Below.size (by assumption)) ?_; go_size))))))).mono ?_
  rintro e w1 ⟨rfl, hm1, hc1⟩
  have hC : Ch (fun j => j = g) w w1 := (Ch.of_below (show Below w.heap.size w _ by (repeat' (first | (with_reducible exact Below.refl _ _) | (with_reducible assumption) | (with_reducible refine Below.alloc ?_ ?_ _) | (with_reducible refine Below.drew ?_) | (with_reducible refine below_drewN ?_ _) | (with_reducible refine Below.setCell ?_ ?_ _) | (with_reducible refine Below.trans ?_ (Below.mono (by assumption) ?_)) | (first | go_size | (with_reducible exact Below.size (by assumption)) | (with_reducible exact Nat.le_trans (Below.size (by assumption)) (Below.size (by assumption))) | (refine Nat.le_trans (Below.size (by assumption)) ?_; go_size))))) _).trans hc1 (fun _ _ e => e)
  have h1 := H.out.keep hC hrg (fun k hk e => HG.out (by rw [hk, e]))
  have d0 : w1.cell? ⟨r, 0, none⟩ = some (.bool true) := h1.hd.cell 0
  have d3 : w1.cell? ⟨r, 3, none⟩ = some (.int .i64 n) := h1.hd.cell 3
  have d4 : w1.cell? ⟨r, 4, none⟩ = some (.int .i64 s.tr) := h1.hd.cell 4
  have d5 : w1.cell? ⟨r, 5, none⟩ = some (.bool s.lk) := h1.hd.cell 5
  have d6 : w1.cell? ⟨r, 6, none⟩ = some (.int .u64 s.fst) := h1.hd.cell 6
  have d7 : w1.cell? ⟨r, 7, none⟩ = some (.slice A s.l.length cl) := h1.hd.cell 7
  have d8 : w1.cell? ⟨r, 8, none⟩ = some (.int .u64 s.res) := h1.hd.cell 8
  have d9 : w1.cell? ⟨r, 9, none⟩ = some (.bool s.ed) := h1.hd.cell 9
  have hfz := fun i => h1.hd.frozen i
  clear c0 c1 c2 c3 c5 c7 c9 hld hc1 z1 z2
  have e1 : (E != 0) = false := by rw [hE]; rfl
  have e2 : (X == s.fst) = true := by rw [beq_iff_eq]; exact hx
  rw [hlk] at d5
  clear hE hx
  have f8 := hfz 8
  have f9 := hfz 9
  have h1q := fun q => h1.below (below_drewN (Below.refl w1.heap.size w1) q)
  have hno := own_blk_ne h1.own h1.hd (by decide)
  have hCq := fun q => (show Ch (fun j => j = r) (w1.drewN q) (((w1.drewN q).setCell ⟨r, 8, none⟩ (.int .u64 1)).setCell ⟨r, 9, none⟩ (.bool true)) from ((Ch.refl (fun j => j = r) (w1.drewN q)).setCell (p := ⟨r, 8, none⟩) (.inl rfl) (.int .u64 1)).setCell (p := ⟨r, 9, none⟩) (.inl rfl) (.bool true))
  have hmr : ∀ q, MemAt (((w1.drewN q).setCell ⟨r, 8, none⟩ (.int .u64 1)).setCell ⟨r, 9, none⟩ (.bool true)) b g c ws := fun q => (hm1.below (below_drewN (Below.refl w1.heap.size w1) q)).keep (hCq q) (fun e => Blk.ne hm1.hd h1.hd (by decide) e) (fun e => hrg e.symm)
  have hch : ∀ q, Ch (fun j => j = r ∨ j = g ∨ (Value.slice A s.l.length cl).ownBlock = some j) w (((w1.drewN q).setCell ⟨r, 8, none⟩ (.int .u64 1)).setCell ⟨r, 9, none⟩ (.bool true)) := fun q => ((hC.mono (G := fun j => j = r ∨ j = g ∨ (Value.slice A s.l.length cl).ownBlock = some j) (fun _ _ e => .inr (.inl e))).drewN q).trans (hCq q) (fun _ _ e => .inl e)
  have hfin : ∀ q, ∃ lv', (lv'.ownBlock = (Value.slice A s.l.length cl).ownBlock ∨ lv'.ownBlock = none) ∧ RdAt B (((w1.drewN q).setCell ⟨r, 8, none⟩ (.int .u64 1)).setCell ⟨r, 9, none⟩ (.bool true)) r v f n { s with res := 1, ed := true } lv' := fun q => by
    have hs := (((h1q q).hd).set 8 (.int .u64 1)).set 9 (.bool true)
    have hz := (hCq q).size
    exact ⟨_, .inl rfl, hs, own_keep (h1q q).own (hCq q) (fun k hk _ e => hno (by rw [hk, e])), h1.tr0, h1.tr1, (fun e => by cases e), h1.ok, h1.ln, h1.f0, Nat.le_trans (h1q q).sz hz⟩
  have HF := Lib.hid hfin
  have HR := Lib.hid hmr
  have HC := Lib.hid hch
  clear hfz hno hmr hch hfin hC h1 hm1 h1q hCq
  go_wp2_with (go_quiet (fail))
  go_ret2
  first
    | (obtain ⟨lv', k1, k2⟩ := HF.out nq; exact ⟨lv', rfl, k2, HR.out nq, HC.out nq, by rcases k1 with k | k; exact .inl k; exact .inr (.inl k)⟩)
    | (obtain ⟨lv', k1, k2⟩ := HF.out 0; exact ⟨lv', rfl, k2, HR.out 0, HC.out 0, by rcases k1 with k | k; exact .inl k; exact .inr (.inl k)⟩)
set_option maxRecDepth 100000 in
set_option maxHeartbeats 1000000 in
theorem rs_wrong (B r : Nat) (v f n : Int) (s : Rs) (lv : Value) (b g c : Nat) (ws : List Int) (w : World) (h : RdAt B w r v f n s lv) (hm : MemAt w b g c ws) (hg : lv.ownBlock ≠ some g) (hed : s.ed = false) (hlk : s.lk = true) (hlt : ¬ (s.l.length : Int) < n) (hE : doE ws 1 v = 0) (hx : doB ws 1 v ≠ s.fst) :
    Calls Try.prog 25 #[.pointer (some ⟨r, 0, none⟩), memI b] w (RdP B w r v f n b g c ws ⟨{ s with tr := s.tr - 1, lk := false, l := [], ed := s.tr - 1 == 0 }, false, 0⟩ lv) := by
  obtain ⟨A, cl, rfl, hcl, hzl⟩ := own_slice h.own
  have c0 : w.cell? ⟨r, 0, none⟩ = some (.bool true) := h.hd.cell 0
  have c1 : w.cell? ⟨r, 1, none⟩ = some (.int .i64 v) := h.hd.cell 1
  have c2 : w.cell? ⟨r, 2, none⟩ = some (.int .i64 f) := h.hd.cell 2
  have c3 : w.cell? ⟨r, 3, none⟩ = some (.int .i64 n) := h.hd.cell 3
  have c5 : w.cell? ⟨r, 5, none⟩ = some (.bool s.lk) := h.hd.cell 5
  have c7 : w.cell? ⟨r, 7, none⟩ = some (.slice A s.l.length cl) := h.hd.cell 7
  have c9 : w.cell? ⟨r, 9, none⟩ = some (.bool s.ed) := h.hd.cell 9
  rw [hed] at c9
  have z1 := nil_Load b
  have z2 := method_Load b
  have ok := h.ok
  have okv := ok.v0
  have okv1 := ok.v1
  have okn := ok.n0
  have okn1 := ok.n1
  have okl := h.ln
  have hrg : r ≠ g := by obtain ⟨sp, hr⟩ := hm.row; exact Blk.ne h.hd hr (by decide)
  have hX := doB_bd hm 1 (v)
  have hld := fun W hW => mload_any b g c ws (v) W hW
  generalize doB ws 1 (v) = X at *
  generalize doE ws 1 (v) = E at *
  rw [hlk] at c5
  have dl : decide ((s.l.length : Int) < n) = false := decide_eq_false hlt
  clear hlt
  have H := Lib.hid h
  have HM := Lib.hid hm
  have HG := Lib.hid hg
  have hed2 := hed
  clear h hm hg hed ok
  go_enter Try.func25, Try.ntmps25
  go_wp2_with (go_quiet (fail))
  refine (hld _ (HM.out.below (by (repeat' (first | (with_reducible exact Below.refl _ _) | (with_reducible assumption) | (with_reducible refine Below.alloc ?_ ?_ _) | (with_reducible refine Below.drew ?_) | (with_reducible refine below_drewN ?_ _) | (with_reducible refine Below.setCell ?_ ?_ _) | (with_reducible refine Below.trans ?_ (Below.mono (by assumption) ?_)) | (first | go_size | (with_reducible exact Below.size (by assumption)) | (with_reducible exact Nat.le_trans (Below.size (by assumption)) (Below.size (by assumption))) | (refine Nat.le_trans (Below.size (by assumption)) ?_; go_size))))))).mono ?_
  rintro e w1 ⟨rfl, hm1, hc1⟩
  have hC : Ch (fun j => j = g) w w1 := (Ch.of_below (show Below w.heap.size w _ by (repeat' (first | (with_reducible exact Below.refl _ _) | (with_reducible assumption) | (with_reducible refine Below.alloc ?_ ?_ _) | (with_reducible refine Below.drew ?_) | (with_reducible refine below_drewN ?_ _) | (with_reducible refine Below.setCell ?_ ?_ _) | (with_reducible refine Below.trans ?_ (Below.mono (by assumption) ?_)) | (first | go_size | (with_reducible exact Below.size (by assumption)) | (with_reducible exact Nat.le_trans (Below.size (by assumption)) (Below.size (by assumption))) | (refine Nat.le_trans (Below.size (by assumption)) ?_; go_size))))) _).trans hc1 (fun _ _ e => e)
  have h1 := H.out.keep hC hrg (fun k hk e => HG.out (by rw [hk, e]))
  have d0 : w1.cell? ⟨r, 0, none⟩ = some (.bool true) := h1.hd.cell 0
  have d3 : w1.cell? ⟨r, 3, none⟩ = some (.int .i64 n) := h1.hd.cell 3
  have d4 : w1.cell? ⟨r, 4, none⟩ = some (.int .i64 s.tr) := h1.hd.cell 4
  have d5 : w1.cell? ⟨r, 5, none⟩ = some (.bool s.lk) := h1.hd.cell 5
  have d6 : w1.cell? ⟨r, 6, none⟩ = some (.int .u64 s.fst) := h1.hd.cell 6
  have d7 : w1.cell? ⟨r, 7, none⟩ = some (.slice A s.l.length cl) := h1.hd.cell 7
  have d8 : w1.cell? ⟨r, 8, none⟩ = some (.int .u64 s.res) := h1.hd.cell 8
  have d9 : w1.cell? ⟨r, 9, none⟩ = some (.bool s.ed) := h1.hd.cell 9
  have hfz := fun i => h1.hd.frozen i
  clear c0 c1 c2 c3 c5 c7 c9 hld hc1 z1 z2
  have e1 : (E != 0) = false := by rw [hE]; rfl
  have e2 : (X == s.fst) = false := by rw [beq_eq_false_iff_ne]; exact hx
  rw [hlk] at d5
  have t0 := h1.go hed2
  have t1 := h1.tr1
  clear hE hx
  have f4 := hfz 4
  have f5 := hfz 5
  have f7 := hfz 7
  have f9 := hfz 9
  have h1q := fun q => h1.below (below_drewN (Below.refl w1.heap.size w1) q)
  have hno := own_blk_ne h1.own h1.hd (by decide)
  have hCq := fun q => (show Ch (fun j => j = r) (w1.drewN q) (((((w1.drewN q).setCell ⟨r, 4, none⟩ (.int .i64 (s.tr - 1))).setCell ⟨r, 5, none⟩ (.bool false)).setCell ⟨r, 7, none⟩ (.slice none 0 0)).setCell ⟨r, 9, none⟩ (.bool (s.tr - 1 == 0))) from ((((Ch.refl (fun j => j = r) (w1.drewN q)).setCell (p := ⟨r, 4, none⟩) (.inl rfl) (.int .i64 (s.tr - 1))).setCell (p := ⟨r, 5, none⟩) (.inl rfl) (.bool false)).setCell (p := ⟨r, 7, none⟩) (.inl rfl) (.slice none 0 0)).setCell (p := ⟨r, 9, none⟩) (.inl rfl) (.bool (s.tr - 1 == 0)))
  have hmr : ∀ q, MemAt (((((w1.drewN q).setCell ⟨r, 4, none⟩ (.int .i64 (s.tr - 1))).setCell ⟨r, 5, none⟩ (.bool false)).setCell ⟨r, 7, none⟩ (.slice none 0 0)).setCell ⟨r, 9, none⟩ (.bool (s.tr - 1 == 0))) b g c ws := fun q => (hm1.below (below_drewN (Below.refl w1.heap.size w1) q)).keep (hCq q) (fun e => Blk.ne hm1.hd h1.hd (by decide) e) (fun e => hrg e.symm)
  have hch : ∀ q, Ch (fun j => j = r ∨ j = g ∨ (Value.slice A s.l.length cl).ownBlock = some j) w (((((w1.drewN q).setCell ⟨r, 4, none⟩ (.int .i64 (s.tr - 1))).setCell ⟨r, 5, none⟩ (.bool false)).setCell ⟨r, 7, none⟩ (.slice none 0 0)).setCell ⟨r, 9, none⟩ (.bool (s.tr - 1 == 0))) := fun q => ((hC.mono (G := fun j => j = r ∨ j = g ∨ (Value.slice A s.l.length cl).ownBlock = some j) (fun _ _ e => .inr (.inl e))).drewN q).trans (hCq q) (fun _ _ e => .inl e)
  have hfin : ∀ q, ∃ lv', (lv'.ownBlock = (Value.slice A s.l.length cl).ownBlock ∨ lv'.ownBlock = none) ∧ RdAt B (((((w1.drewN q).setCell ⟨r, 4, none⟩ (.int .i64 (s.tr - 1))).setCell ⟨r, 5, none⟩ (.bool false)).setCell ⟨r, 7, none⟩ (.slice none 0 0)).setCell ⟨r, 9, none⟩ (.bool (s.tr - 1 == 0))) r v f n { s with tr := s.tr - 1, lk := false, l := [], ed := s.tr - 1 == 0 } lv' := fun q => by
    have hs := (((((h1q q).hd).set 4 (.int .i64 (s.tr - 1))).set 5 (.bool false)).set 7 (.slice none 0 0)).set 9 (.bool (s.tr - 1 == 0))
    have hz := (hCq q).size
    exact ⟨.slice none 0 0, .inr rfl, hs, own_none _ _ _ _, by show 0 ≤ s.tr - 1; omega, by show s.tr - 1 ≤ _; omega, (fun e => by show 1 ≤ s.tr - 1; have e : (s.tr - 1 == 0) = false := e; rw [beq_eq_false_iff_ne] at e; omega), h1.ok, by show ((([] : List Int).length : Nat) : Int) ≤ n; simpa using okn, h1.f0, Nat.le_trans (h1q q).sz hz⟩
  have HF := Lib.hid hfin
  have HR := Lib.hid hmr
  have HC := Lib.hid hch
  clear hfz hno hmr hch hfin hC h1 hm1 h1q hCq
  go_wp2_with (go_quiet (fail))
  go_ret2
  first
    | (obtain ⟨lv', k1, k2⟩ := HF.out nq; exact ⟨lv', rfl, k2, HR.out nq, HC.out nq, by rcases k1 with k | k; exact .inl k; exact .inr (.inl k)⟩)
    | (obtain ⟨lv', k1, k2⟩ := HF.out 0; exact ⟨lv', rfl, k2, HR.out 0, HC.out 0, by rcases k1 with k | k; exact .inl k; exact .inr (.inl k)⟩)
end Go.Proofs.Ytbhcgmiglkocbaa
