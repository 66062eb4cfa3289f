/-
  The walk of ThreadOnce: it returns true at every input.
-/
import Derived.Test.YtmbofohdjdipdaaLTh5
import Derived.Test.YtmbofohdjdipdaaRMem
import Derived.Test.YtmbofohdjdipdaaOpen2
namespace Go.Proofs.Ytmbofohdjdipdaa
open Go.RowKit
namespace ThreadOnce
theorem wf_u (x : Int) (h : (Lit.int .u64 x).wf = true) : U64 x := wf_u64 h
theorem doE_of {ws : List Int} {k i : Int} (hk : 1 ≤ k ∧ k ≤ 4) : doE ws k i = 0 ∨ doE ws k i = 3 := by
  unfold doE
  rw [if_neg (by omega)]
  split
  · exact .inr rfl
  · exact .inl rfl
theorem doWs_bad {ws : List Int} {k i bf af : Int} (h : doE ws k i ≠ 0) : doWs ws k i bf af = ws := by
  unfold doE at h
  unfold doWs
  rw [if_neg]
  rintro ⟨h1, h2, h3, h4, _⟩
  rw [if_neg (by omega), if_neg (by omega)] at h
  exact h rfl
theorem doWs_b {ws : List Int} {k i bf af : Int} : doWs ws k i (if k = 3 then bf else 0) (if k = 1 then 0 else af) = doWs ws k i bf af := by
  unfold doWs
  by_cases h3 : k = 3
  · subst h3; rfl
  · rw [if_neg h3]
    by_cases h1 : k = 1
    · subst h1; simp
    · rw [if_neg h1]
      simp [h3]
theorem doA_b {ws : List Int} {k i bf af : Int} : doA ws k i (if k = 3 then bf else 0) (if k = 1 then 0 else af) = doA ws k i bf af := by
  unfold doA; rw [doWs_b]
abbrev fN (k i b a : Int) : Note := ⟨k, i, b, a⟩
theorem gr_bad (ws : List Int) (f g : Note) (nb : Nat) (h : doE ws f.k f.i ≠ 0) :
    oStep ws (.greedy ⟨f, g, 0, false⟩ nb) = ⟨.greedy ⟨f, g, 0, false⟩ nb, (ws, ⟨doK ws f.k f.i, doI ws f.k f.i, doB ws f.k f.i, doA ws f.k f.i f.b f.a⟩), false, doE ws f.k f.i⟩ := by
  have h1 : oE ws note0 f.k f.i = doE ws f.k f.i := rfl
  show (Res.mk (Pg.greedy (grN (onceM 0 0 0 0) (ws, note0) _) nb) (grS (onceM 0 0 0 0) (ws, note0) _) false (oE ws note0 f.k f.i) : Res (List Int × Note)) = _
  rw [h1]
  unfold grN grS
  have h2 : (onceM 0 0 0 0).E (ws, note0) f.k f.i = doE ws f.k f.i := rfl
  simp only [h2]
  rw [if_neg h, if_neg h]
  congr 1
  show (doWs ws f.k f.i (if f.k = 3 then f.b else 0) (if f.k = 1 then 0 else f.a), _) = _
  rw [doWs_b, doWs_bad h]
  congr 1
  show (⟨doK ws f.k f.i, doI ws f.k f.i, doB ws f.k f.i, doA ws f.k f.i (if f.k = 3 then f.b else 0) (if f.k = 1 then 0 else f.a)⟩ : Note) = _
  rw [doA_b]
theorem gr_good (ws : List Int) (f g : Note) (nb : Nat) (hk : 1 ≤ f.k) (h : doE ws f.k f.i = 0) :
    oStep ws (.greedy ⟨f, g, 0, false⟩ nb) = ⟨.greedy ⟨f, g, 11, true⟩ nb, (doWs ws f.k f.i f.b f.a, ⟨doK ws f.k f.i, doI ws f.k f.i, doB ws f.k f.i, doA ws f.k f.i f.b f.a⟩), false, 0⟩ := by
  have h1 : oE ws note0 f.k f.i = doE ws f.k f.i := rfl
  have hn : doK ws f.k f.i ≠ 0 := by unfold doK; rw [if_pos h]; omega
  have ha : accN (onceM 0 0 0 0) (ws, note0) f = (doWs ws f.k f.i f.b f.a, ⟨doK ws f.k f.i, doI ws f.k f.i, doB ws f.k f.i, doA ws f.k f.i f.b f.a⟩) := by
    show (doWs ws f.k f.i (if f.k = 3 then f.b else 0) (if f.k = 1 then 0 else f.a), _) = _
    rw [doWs_b]
    congr 1
    show (⟨doK ws f.k f.i, doI ws f.k f.i, doB ws f.k f.i, doA ws f.k f.i (if f.k = 3 then f.b else 0) (if f.k = 1 then 0 else f.a)⟩ : Note) = _
    rw [doA_b]
  show (Res.mk (Pg.greedy (grN (onceM 0 0 0 0) (ws, note0) _) nb) (grS (onceM 0 0 0 0) (ws, note0) _) false (oE ws note0 f.k f.i) : Res (List Int × Note)) = _
  rw [h1, h]
  unfold grN grS
  have h2 : (onceM 0 0 0 0).E (ws, note0) f.k f.i = doE ws f.k f.i := rfl
  simp only [h2]
  rw [if_pos h, if_pos h, ha]
  generalize hN : (⟨doK ws f.k f.i, doI ws f.k f.i, doB ws f.k f.i, doA ws f.k f.i f.b f.a⟩ : Note) = N1
  have hN2 : N1.k ≠ 0 := by subst hN; exact hn
  clear hN ha h1 h2
  generalize doWs ws f.k f.i f.b f.a = W1
  have h3 : (onceM 0 0 0 0).E (W1, N1) g.k g.i = 11 := by
    show oE W1 N1 g.k g.i = 11
    unfold oE
    rw [if_neg hN2]
  have h4 : accN (onceM 0 0 0 0) (W1, N1) g = (W1, N1) := by
    show (oWs W1 N1 _ _ _ _, oN W1 N1 _ _ _ _) = _
    unfold oWs oN
    rw [if_neg hN2, if_neg hN2]
  rw [h3, h4]
theorem machine1 {M : MaR} {x : Pg} {s l : Int} {w : World} {ws : List Int} (h : MaAt w M ws) (hq : M.qs.map (·.t) = [⟨x, s, l⟩]) : ∃ q, M.qs = [q] ∧ q.t = ⟨x, s, l⟩ ∧ ProgAt w q.d q.fs x := by
  cases hm : M.qs with
  | nil => rw [hm] at hq; cases hq
  | cons q t =>
    rw [hm] at hq
    simp only [List.map_cons, List.cons.injEq, List.map_eq_nil_iff] at hq
    obtain ⟨h1, rfl⟩ := hq
    refine ⟨q, rfl, h1, ?_⟩
    have := h.pr q (by rw [hm]; simp)
    rwa [h1] at this
theorem thr_good (x y : Pg) (s : List Int × Note) : thrN ⟨x, 0, 0⟩ ⟨y, s, false, 0⟩ = ⟨y, 1, 0⟩ := by
  unfold thrN
  rw [if_pos rfl]
  congr 1
  show inc 0 = 1
  simp only [inc]
  decide +kernel
theorem thr_bad (x y : Pg) (s : List Int × Note) (e : Int) (he : e ≠ 0) : thrN ⟨x, 0, 0⟩ ⟨y, s, false, e⟩ = ⟨y, 0, 0⟩ := by
  unfold thrN
  rw [if_neg he]
theorem did_good (y : Pg) (s : List Int) (n : Note) : didR ((0 : Nat) : Int) ⟨y, (s, n), false, 0⟩ = didV 0 n false y.done := by
  unfold didR
  rw [if_pos rfl]
  rfl
theorem did_bad (y : Pg) (s : List Int) (n : Note) (e : Int) (he : e ≠ 0) : didR ((0 : Nat) : Int) ⟨y, (s, n), false, e⟩ = didV 0 note0 false false := by
  unfold didR
  rw [if_neg he]
set_option maxRecDepth 100000 in
set_option maxHeartbeats 4000000 in
theorem walk (A : Option Addr) (n c : Nat) (xs : List Int) (l : xs.length = n) (m : n ≤ c) (mb : c ≤ 9223372036854775807) (z : A = none → c = 0)
    (k1 : Int) (_q1 : (Lit.int .i64 k1).wf = true) (i1 : Int) (_q2 : (Lit.int .i64 i1).wf = true) (b1 : Int) (_q3 : (Lit.int .u64 b1).wf = true) (a1 : Int) (q4 : (Lit.int .u64 a1).wf = true)
    (k2 : Int) (_q5 : (Lit.int .i64 k2).wf = true) (i2 : Int) (_q6 : (Lit.int .i64 i2).wf = true) (b2 : Int) (_q7 : (Lit.int .u64 b2).wf = true) (a2 : Int) (q8 : (Lit.int .u64 a2).wf = true) (w : World)
    (r : Rd (fun b => b < w.heap.size) w A (xs.map (Value.int .u64))) (y : ∀ x ∈ xs, (Lit.int .u64 x).wf = true) :
    Calls Try.prog 7 #[.slice A n c, acc4 k1 i1 b1 a1, acc4 k2 i2 b2 a2] w fun e w' => e = .returned (.bool true) ∧ Below w.heap.size w w' := by
  have hu1 := wf_u64 q4
  have hu2 := wf_u64 q8
  clear q4 q8
  subst l
  by_cases hg : 1 ≤ xs.length ∧ xs.length ≤ 20 ∧ (1 ≤ k1 ∧ k1 ≤ 4) ∧ (1 ≤ k2 ∧ k2 ≤ 4)
  · obtain ⟨g1, g2, ⟨g3, g4⟩, g5, g6⟩ := hg
    have d1 : decide ((xs.length : Int) < 1) = false := decide_eq_false (by omega)
    have d2 : decide ((20 : Int) < xs.length) = false := decide_eq_false (by omega)
    have bA := (Blk.new w 45 [.int .i64 k1, .int .i64 i1, .int .u64 b1, .int .u64 a1]).keep ((Ch.refl (fun _ => False) _).alloc (.cells [.int .i64 k2, .int .i64 i2, .int .u64 b2, .int .u64 a2].toArray 45)) (fun e => e)
    have bB := Blk.new (w.alloc (.cells [.int .i64 k1, .int .i64 i1, .int .u64 b1, .int .u64 a1].toArray 45)) 45 [.int .i64 k2, .int .i64 i2, .int .u64 b2, .int .u64 a2]
    rw [World.size_alloc] at bB
    go_enter Try.func7, Try.ntmps7
    go_wp2_with fail
    refine (rkind_yes k1 _ g3 g4).mono ?_
    rintro e w' ⟨rfl, rfl⟩
    go_wp2_with fail
    refine (rkind_yes k2 _ g5 g6).mono ?_
    rintro e w' ⟨rfl, rfl⟩
    go_wp2_with fail
    refine (made_ok A xs xs.length c _ ((r.keep (Ch.of_below (by (repeat' (first | (with_reducible exact Below.refl _ _) | (with_reducible assumption) | (with_reducible refine Below.alloc ?_ ?_ _) | (with_reducible refine Below.drew ?_) | (with_reducible refine below_drewN ?_ _) | (with_reducible refine Below.setCell ?_ ?_ _) | (with_reducible refine Below.trans ?_ (Below.mono (by assumption) ?_)) | (first | go_size | (with_reducible exact Below.size (by assumption)) | (with_reducible exact Nat.le_trans (Below.size (by assumption)) (Below.size (by assumption))) | (refine Nat.le_trans (Below.size (by assumption)) ?_; go_size)))) : Below w.heap.size w _) (fun _ => False)) (fun _ _ _ e => e)).mono (fun b _ hb => Nat.lt_of_lt_of_le hb (by simp; omega))) rfl g1 (by omega) m (fun x hx => wf_u64 (y x hx))).mono ?_
    rintro e w1 ⟨mb1, mg1, rfl, hm1, hb1, hg1, hB1⟩
    have hB1' : Below w.heap.size w w1 := by (repeat' (first | (with_reducible exact Below.refl _ _) | (with_reducible assumption) | (with_reducible refine Below.alloc ?_ ?_ _) | (with_reducible refine Below.drew ?_) | (with_reducible refine below_drewN ?_ _) | (with_reducible refine Below.setCell ?_ ?_ _) | (with_reducible refine Below.trans ?_ (Below.mono (by assumption) ?_)) | (first | go_size | (with_reducible exact Below.size (by assumption)) | (with_reducible exact Nat.le_trans (Below.size (by assumption)) (Below.size (by assumption))) | (refine Nat.le_trans (Below.size (by assumption)) ?_; go_size))))
    have bA1 := bA.keep (Ch.of_below hB1 (fun _ => False)) (fun e => e)
    have bB1 := bB.keep (Ch.of_below hB1 (fun _ => False)) (fun e => e)
    clear hB1 bA bB
    go_wp2_with fail
    refine (manew_ok _ _ _ _ _ (hm1.below (by (repeat' (first | (with_reducible exact Below.refl _ _) | (with_reducible assumption) | (with_reducible refine Below.alloc ?_ ?_ _) | (with_reducible refine Below.drew ?_) | (with_reducible refine below_drewN ?_ _) | (with_reducible refine Below.setCell ?_ ?_ _) | (with_reducible refine Below.trans ?_ (Below.mono (by assumption) ?_)) | (first | go_size | (with_reducible exact Below.size (by assumption)) | (with_reducible exact Nat.le_trans (Below.size (by assumption)) (Below.size (by assumption))) | (refine Nat.le_trans (Below.size (by assumption)) ?_; go_size))))))).mono ?_
    rintro e w2 ⟨hB2, M, rfl, hM2, hq2, hf2⟩
    have hB2' : Below w.heap.size w w2 := by (repeat' (first | (with_reducible exact Below.refl _ _) | (with_reducible assumption) | (with_reducible refine Below.alloc ?_ ?_ _) | (with_reducible refine Below.drew ?_) | (with_reducible refine below_drewN ?_ _) | (with_reducible refine Below.setCell ?_ ?_ _) | (with_reducible refine Below.trans ?_ (Below.mono (by assumption) ?_)) | (first | go_size | (with_reducible exact Below.size (by assumption)) | (with_reducible exact Nat.le_trans (Below.size (by assumption)) (Below.size (by assumption))) | (refine Nat.le_trans (Below.size (by assumption)) ?_; go_size))))
    have hf3 : ∀ k, M.foot k → w.heap.size + 2 ≤ k := fun k hk => Nat.le_trans bB1.lt (hf2 k hk)
    have hlt2 := hM2.lt
    have bA2 := bA1.keep (Ch.of_below hB2 (fun _ => False)) (fun e => e)
    have bB2 := bB1.keep (Ch.of_below hB2 (fun _ => False)) (fun e => e)
    clear hB2 hB1' hm1 hb1 hg1 hf2 bA1 bB1
    have a0 := bA2.cell 0
    have a1' := bA2.cell 1
    have a2' := bA2.cell 2
    have a3 := bA2.cell 3
    have b0 := bB2.cell 0
    have b1' := bB2.cell 1
    have b2' := bB2.cell 2
    have b3 := bB2.cell 3
    have alt := bA2.lt
    have blt := bB2.lt
    simp only [List.getElem?_cons_zero, List.getElem?_cons_succ] at a0 a1' a2' a3 b0 b1' b2' b3
    go_wp2_with fail
    obtain ⟨nb, hnb⟩ : ∃ nb, nb = w2.heap.size := ⟨_, rfl⟩
    have hnw : w.heap.size + 2 ≤ nb := hnb ▸ blt
    have hG : GrAt ((w2.alloc (.cells #[.int .i64 0] 29)).alloc (.cells (grV w2.heap.size ⟨⟨k1, i1, b1, a1⟩, ⟨k2, i2, b2, a2⟩, 0, false⟩).toArray 112)) (w2.heap.size + 1) w2.heap.size ⟨⟨k1, i1, b1, a1⟩, ⟨k2, i2, b2, a2⟩, 0, false⟩ := by
      refine ⟨?_, (Blk.new w2 29 [.int .i64 0]).keep ((Ch.refl (fun _ => False) _).alloc _) (fun e => e), ⟨by dsimp only; omega, hu1⟩, ⟨by dsimp only; omega, hu2⟩⟩
      have := Blk.new (w2.alloc (.cells #[.int .i64 0] 29)) 112 (grV w2.heap.size ⟨⟨k1, i1, b1, a1⟩, ⟨k2, i2, b2, a2⟩, 0, false⟩)
      rwa [World.size_alloc] at this
    have hadd := add_ok M xs (greedyD (w2.heap.size + 1)) [w2.heap.size + 1, w2.heap.size] (.greedy ⟨⟨k1, i1, b1, a1⟩, ⟨k2, i2, b2, a2⟩, 0, false⟩ w2.heap.size) _ (hM2.below (by (repeat' (first | (with_reducible exact Below.refl _ _) | (with_reducible assumption) | (with_reducible refine Below.alloc ?_ ?_ _) | (with_reducible refine Below.drew ?_) | (with_reducible refine below_drewN ?_ _) | (with_reducible refine Below.setCell ?_ ?_ _) | (with_reducible refine Below.trans ?_ (Below.mono (by assumption) ?_)) | (first | go_size | (with_reducible exact Below.size (by assumption)) | (with_reducible exact Nat.le_trans (Below.size (by assumption)) (Below.size (by assumption))) | (refine Nat.le_trans (Below.size (by assumption)) ?_; go_size)))))) ⟨_, rfl, rfl, hG⟩ (fun k hk hm => by have := hlt2 k hm; simp only [Pg.shares, List.mem_singleton] at hk; omega) (by rw [hq2]; decide)
    rw [hq2] at hadd
    refine hadd.mono ?_
    clear hadd hG
    rintro e w4 ⟨rfl, M4, hM4, hq4, hr4, hf4, hC4⟩
    have hB4 : Below w.heap.size w w4 := Below.trans (by (repeat' (first | (with_reducible exact Below.refl _ _) | (with_reducible assumption) | (with_reducible refine Below.alloc ?_ ?_ _) | (with_reducible refine Below.drew ?_) | (with_reducible refine below_drewN ?_ _) | (with_reducible refine Below.setCell ?_ ?_ _) | (with_reducible refine Below.trans ?_ (Below.mono (by assumption) ?_)) | (first | go_size | (with_reducible exact Below.size (by assumption)) | (with_reducible exact Nat.le_trans (Below.size (by assumption)) (Below.size (by assumption))) | (refine Nat.le_trans (Below.size (by assumption)) ?_; go_size))))) (hC4.below (B := w.heap.size) (fun j _ hj => by have := hf3 j hj; omega) (by simp; omega))
    have hf4' : ∀ k, M4.foot k → w.heap.size + 2 ≤ k := fun k hk => by
      rcases hf4 k hk with h | h | h
      · exact hf3 k h
      · simp at h; omega
      · simp only [Pg.shares, List.mem_singleton] at h; omega
    have bA4 := (bA2.keep (((Ch.refl (fun _ => False) _).alloc _).alloc _) (fun e => e)).keep hC4 (fun e => by have := hf3 _ e; omega)
    have hlt4 := hM4.lt
    rw [← hnb] at hq4
    rw [← hr4]
    clear hM2 hq2 hr4 hf4 hC4 hB2' hf3 hlt2 bA2 bB2 a0 a1' a2' a3 b0 b1' b2' b3 alt blt
    have a0 := bA4.cell 0
    have a1' := bA4.cell 1
    have a2' := bA4.cell 2
    have a3 := bA4.cell 3
    simp only [List.getElem?_cons_zero, List.getElem?_cons_succ] at a0 a1' a2' a3
    go_wp2_with fail
    refine (rdo_n A xs xs.length c k1 i1 b1 a1 (fun b => b < w.heap.size) _ (r.keep (Ch.of_below (by (repeat' (first | (with_reducible exact Below.refl _ _) | (with_reducible assumption) | (with_reducible refine Below.alloc ?_ ?_ _) | (with_reducible refine Below.drew ?_) | (with_reducible refine below_drewN ?_ _) | (with_reducible refine Below.setCell ?_ ?_ _) | (with_reducible refine Below.trans ?_ (Below.mono (by assumption) ?_)) | (first | go_size | (with_reducible exact Below.size (by assumption)) | (with_reducible exact Nat.le_trans (Below.size (by assumption)) (Below.size (by assumption))) | (refine Nat.le_trans (Below.size (by assumption)) ?_; go_size)))) : Below w.heap.size w _) (fun _ => False)) (fun _ _ _ e => e)) rfl m mb (by omega) z).mono ?_
    rintro e w5 ⟨A5, c5, rfl, hr5, hc5, hcm5, hA5, hB5⟩
    have hM5 := hM4.below (w' := w5) (by (repeat' (first | (with_reducible exact Below.refl _ _) | (with_reducible assumption) | (with_reducible refine Below.alloc ?_ ?_ _) | (with_reducible refine Below.drew ?_) | (with_reducible refine below_drewN ?_ _) | (with_reducible refine Below.setCell ?_ ?_ _) | (with_reducible refine Below.trans ?_ (Below.mono (by assumption) ?_)) | (first | go_size | (with_reducible exact Below.size (by assumption)) | (with_reducible exact Nat.le_trans (Below.size (by assumption)) (Below.size (by assumption))) | (refine Nat.le_trans (Below.size (by assumption)) ?_; go_size)))))
    have hr5' := hr5.mono (G' := fun b => ¬ M4.foot b) (fun b _ hb hf => by
      have h1 := hf4' b hf
      have h2 := hlt4 b hf
      rcases hb with hb | hb
      · omega
      · omega)
    have hB5' : Below w.heap.size w w5 := by (repeat' (first | (with_reducible exact Below.refl _ _) | (with_reducible assumption) | (with_reducible refine Below.alloc ?_ ?_ _) | (with_reducible refine Below.drew ?_) | (with_reducible refine below_drewN ?_ _) | (with_reducible refine Below.setCell ?_ ?_ _) | (with_reducible refine Below.trans ?_ (Below.mono (by assumption) ?_)) | (first | go_size | (with_reducible exact Below.size (by assumption)) | (with_reducible exact Nat.le_trans (Below.size (by assumption)) (Below.size (by assumption))) | (refine Nat.le_trans (Below.size (by assumption)) ?_; go_size))))
    obtain ⟨q, hq, hqt, hqp⟩ := machine1 hM5 hq4
    have hlt5 : ∀ k, M4.foot k → k < w5.heap.size := hM5.lt
    clear hM4 hB4 hB5 hr5 hlt4 bA4 a0 a1' a2' a3 hq4
    have hwl : (doWs xs k1 i1 b1 a1).length = xs.length := doWs_len xs k1 i1 b1 a1
    go_wp2_with fail
    have hqd : q.t.x.done = false := by rw [hqt]; rfl
    have hst := step_ok M4 xs 0 q (w5.alloc (.cells #[.int .i64 (doK xs k1 i1), .int .i64 (doI xs k1 i1), .int .u64 (doB xs k1 i1), .int .u64 (doA xs k1 i1 b1 a1)] 45)) (hM5.below (by (repeat' (first | (with_reducible exact Below.refl _ _) | (with_reducible assumption) | (with_reducible refine Below.alloc ?_ ?_ _) | (with_reducible refine Below.drew ?_) | (with_reducible refine below_drewN ?_ _) | (with_reducible refine Below.setCell ?_ ?_ _) | (with_reducible refine Below.trans ?_ (Below.mono (by assumption) ?_)) | (first | go_size | (with_reducible exact Below.size (by assumption)) | (with_reducible exact Nat.le_trans (Below.size (by assumption)) (Below.size (by assumption))) | (refine Nat.le_trans (Below.size (by assumption)) ?_; go_size)))))) (by rw [hq]; rfl) hqd
    rw [hqt, hq] at hst
    have bW := Blk.new w5 45 [.int .i64 (doK xs k1 i1), .int .i64 (doI xs k1 i1), .int .u64 (doB xs k1 i1), .int .u64 (doA xs k1 i1 b1 a1)]
    have hr6 := hr5'.keep (Ch.of_below (by (repeat' (first | (with_reducible exact Below.refl _ _) | (with_reducible assumption) | (with_reducible refine Below.alloc ?_ ?_ _) | (with_reducible refine Below.drew ?_) | (with_reducible refine below_drewN ?_ _) | (with_reducible refine Below.setCell ?_ ?_ _) | (with_reducible refine Below.trans ?_ (Below.mono (by assumption) ?_)) | (first | go_size | (with_reducible exact Below.size (by assumption)) | (with_reducible exact Nat.le_trans (Below.size (by assumption)) (Below.size (by assumption))) | (refine Nat.le_trans (Below.size (by assumption)) ?_; go_size)))) : Below w5.heap.size w5 (w5.alloc (.cells #[.int .i64 (doK xs k1 i1), .int .i64 (doI xs k1 i1), .int .u64 (doB xs k1 i1), .int .u64 (doA xs k1 i1 b1 a1)] 45))) (fun _ => False)) (fun _ _ _ e => e)
    by_cases he : doE xs k1 i1 = 0
    · rw [gr_good xs ⟨k1, i1, b1, a1⟩ ⟨k2, i2, b2, a2⟩ nb g3 he, thr_good, did_good] at hst
      rw [he]
      change Calls _ _ _ _ (MaP _ M4 (doWs xs k1 i1 b1 a1) [⟨.greedy ⟨⟨k1, i1, b1, a1⟩, ⟨k2, i2, b2, a2⟩, 11, true⟩ nb, 1, 0⟩] [] (.tuple #[didV 0 ⟨doK xs k1 i1, doI xs k1 i1, doB xs k1 i1, doA xs k1 i1 b1 a1⟩ false true, .int .i64 0])) at hst
      refine hst.mono ?_
      rintro e w6 ⟨rfl, M6, hM6, hq6, hr6', hf6, hC6⟩
      clear hst
      have hB6 : Below w.heap.size w w6 := Below.trans (by (repeat' (first | (with_reducible exact Below.refl _ _) | (with_reducible assumption) | (with_reducible refine Below.alloc ?_ ?_ _) | (with_reducible refine Below.drew ?_) | (with_reducible refine below_drewN ?_ _) | (with_reducible refine Below.setCell ?_ ?_ _) | (with_reducible refine Below.trans ?_ (Below.mono (by assumption) ?_)) | (first | go_size | (with_reducible exact Below.size (by assumption)) | (with_reducible exact Nat.le_trans (Below.size (by assumption)) (Below.size (by assumption))) | (refine Nat.le_trans (Below.size (by assumption)) ?_; go_size)))) : Below w.heap.size w (w5.alloc (.cells #[.int .i64 (doK xs k1 i1), .int .i64 (doI xs k1 i1), .int .u64 (doB xs k1 i1), .int .u64 (doA xs k1 i1 b1 a1)] 45))) (hC6.below (B := w.heap.size) (fun j _ hj => by have := hf4' j hj; omega) (Nat.le_trans hB5'.size (by simp)))
      have bW6 := bW.keep hC6 (fun e => absurd (hlt5 _ e) (Nat.lt_irrefl _))
      have hr7 := (hr6.keep hC6 (fun b _ hg e => hg e)).mono (G' := fun _ => True) (fun _ _ _ => trivial)
      obtain ⟨q6, hq6', hqt6, hqp6⟩ := machine1 hM6 hq6
      rw [← hr6']
      clear bW hr6 hr5' hC6 hf6 hr6' hM5 hlt5
      go_wp2_with fail
      refine (mamem_ok M6 _ _ (hM6.below (by (repeat' (first | (with_reducible exact Below.refl _ _) | (with_reducible assumption) | (with_reducible refine Below.alloc ?_ ?_ _) | (with_reducible refine Below.drew ?_) | (with_reducible refine below_drewN ?_ _) | (with_reducible refine Below.setCell ?_ ?_ _) | (with_reducible refine Below.trans ?_ (Below.mono (by assumption) ?_)) | (first | go_size | (with_reducible exact Below.size (by assumption)) | (with_reducible exact Nat.le_trans (Below.size (by assumption)) (Below.size (by assumption))) | (refine Nat.le_trans (Below.size (by assumption)) ?_; go_size))))))).mono ?_
      rintro e w7 ⟨b7, g7, cc7, rfl, hm7, _, _, hB7⟩
      have bW7 := (bW6.keep ((Ch.refl (fun _ => False) _).alloc _) (fun e => e)).keep (Ch.of_below hB7 (fun _ => False)) (fun e => e)
      have bD7 := (Blk.new w6 47 [.int .i64 0, .int .i64 (doK xs k1 i1), .int .i64 (doI xs k1 i1), .int .u64 (doB xs k1 i1), .int .u64 (doA xs k1 i1 b1 a1), .bool false, .bool true]).keep (Ch.of_below hB7 (fun _ => False)) (fun e => e)
      have hr8 := (hr7.keep ((Ch.refl (fun _ => False) _).alloc _) (fun _ _ _ e => e)).keep (Ch.of_below hB7 (fun _ => False)) (fun _ _ _ e => e)
      have hB7' : Below w.heap.size w w7 := by (repeat' (first | (with_reducible exact Below.refl _ _) | (with_reducible assumption) | (with_reducible refine Below.alloc ?_ ?_ _) | (with_reducible refine Below.drew ?_) | (with_reducible refine below_drewN ?_ _) | (with_reducible refine Below.setCell ?_ ?_ _) | (with_reducible refine Below.trans ?_ (Below.mono (by assumption) ?_)) | (first | go_size | (with_reducible exact Below.size (by assumption)) | (with_reducible exact Nat.le_trans (Below.size (by assumption)) (Below.size (by assumption))) | (refine Nat.le_trans (Below.size (by assumption)) ?_; go_size))))
      have hM7 := (hM6.below (w' := w6.alloc _) (by (repeat' (first | (with_reducible exact Below.refl _ _) | (with_reducible assumption) | (with_reducible refine Below.alloc ?_ ?_ _) | (with_reducible refine Below.drew ?_) | (with_reducible refine below_drewN ?_ _) | (with_reducible refine Below.setCell ?_ ?_ _) | (with_reducible refine Below.trans ?_ (Below.mono (by assumption) ?_)) | (first | go_size | (with_reducible exact Below.size (by assumption)) | (with_reducible exact Nat.le_trans (Below.size (by assumption)) (Below.size (by assumption))) | (refine Nat.le_trans (Below.size (by assumption)) ?_; go_size)))))).below hB7
      obtain ⟨r6, _, _, hG6⟩ := hqp6
      have bN7 := (hG6.n.keep ((Ch.refl (fun _ => False) _).alloc _) (fun e => e)).keep (Ch.of_below hB7 (fun _ => False)) (fun e => e)
      clear bW6 hr7 hB7 hM6 hG6 hB6
      go_wp2_with fail
      have e1 : ((doWs xs k1 i1 b1 a1).drop 0).take (xs.length - 0) = doWs xs k1 i1 b1 a1 := by rw [List.drop_zero, Nat.sub_zero, ← hwl, List.take_length]
      have hwd := mwords_ok b7 g7 cc7 (doWs xs k1 i1 b1 a1) 0 xs.length w7 hm7 (Nat.zero_le _) (by omega)
      rw [e1] at hwd
      refine hwd.mono ?_
      rintro e w8 ⟨v8, rfl, ho8, hB8⟩
      clear hwd
      have hM8 := hM7.below hB8
      have bW8 := bW7.keep (Ch.of_below hB8 (fun _ => False)) (fun e => e)
      have bD8 := bD7.keep (Ch.of_below hB8 (fun _ => False)) (fun e => e)
      have bN8 := bN7.keep (Ch.of_below hB8 (fun _ => False)) (fun e => e)
      have hr9 := hr8.keep (Ch.of_below hB8 (fun _ => False)) (fun _ _ _ e => e)
      have hB8' : Below w.heap.size w w8 := by (repeat' (first | (with_reducible exact Below.refl _ _) | (with_reducible assumption) | (with_reducible refine Below.alloc ?_ ?_ _) | (with_reducible refine Below.drew ?_) | (with_reducible refine below_drewN ?_ _) | (with_reducible refine Below.setCell ?_ ?_ _) | (with_reducible refine Below.trans ?_ (Below.mono (by assumption) ?_)) | (first | go_size | (with_reducible exact Below.size (by assumption)) | (with_reducible exact Nat.le_trans (Below.size (by assumption)) (Below.size (by assumption))) | (refine Nat.le_trans (Below.size (by assumption)) ?_; go_size))))
      clear hM7 bW7 bD7 bN7 hr8 hB8 hB7'
      obtain ⟨A8, c8, rfl, hn8, _⟩ := own_slice ho8
      have hro := (Rd.of_own ho8).mono (G' := fun _ => True) (fun _ _ _ => trivial)
      subst hnb
      have s0 := bW8.cell 0
      have s1 := bW8.cell 1
      have s2 := bW8.cell 2
      have s3 := bW8.cell 3
      have t0 := bD8.cell 0
      have t1 := bD8.cell 1
      have t2 := bD8.cell 2
      have t3 := bD8.cell 3
      have t4 := bD8.cell 4
      have t5 := bD8.cell 5
      have t6 := bD8.cell 6
      have u0 := bN8.cell 0
      simp only [List.getElem?_cons_zero, List.getElem?_cons_succ] at s0 s1 s2 s3 t0 t1 t2 t3 t4 t5 t6 u0
      go_wp2_with fail
      refine (rsame_any A8 A5 (doWs xs k1 i1 b1 a1) (doWs xs k1 i1 b1 a1) xs.length xs.length c8 c5 w8 hro hr9 hwl hwl (by omega) (by omega) (by omega) hc5).mono ?_
      rintro e w9 ⟨rfl, qq, rfl⟩
      rw [show eqB (doWs xs k1 i1 b1 a1) (doWs xs k1 i1 b1 a1) = true from decide_eq_true rfl]
      have hM9 := hM8.below (below_drewN (Below.refl _ _) qq)
      clear ho8 hro hr9 bW8 bD8 bN8
      generalize doK xs k1 i1 = p1 at *
      generalize doI xs k1 i1 = p2 at *
      generalize doB xs k1 i1 = p3 at *
      generalize doA xs k1 i1 b1 a1 = p4 at *
      go_wp2_with fail
      refine (madone_in M6 _ 0 q6 _ hM9 (by rw [hq6']; rfl)).mono ?_
      rintro e w9 ⟨rfl, rfl⟩
      rw [hqt6]
      go_wp2_with fail
      refine (maresult_in M6 _ 0 q6 _ hM9 (by rw [hq6']; rfl)).mono ?_
      rintro e w9 ⟨rfl, rfl⟩
      rw [hqt6]
      clear hM9 hM8
      go_wp2_with fail
      refine (known_ok _).mono ?_
      rintro e w10 ⟨rfl, hB10⟩
      go_wp2
      go_ret
      exact ⟨rfl, by (repeat' (first | (with_reducible exact Below.refl _ _) | (with_reducible assumption) | (with_reducible refine Below.alloc ?_ ?_ _) | (with_reducible refine Below.drew ?_) | (with_reducible refine below_drewN ?_ _) | (with_reducible refine Below.setCell ?_ ?_ _) | (with_reducible refine Below.trans ?_ (Below.mono (by assumption) ?_)) | (first | go_size | (with_reducible exact Below.size (by assumption)) | (with_reducible exact Nat.le_trans (Below.size (by assumption)) (Below.size (by assumption))) | (refine Nat.le_trans (Below.size (by assumption)) ?_; go_size))))⟩
    · rw [gr_bad xs ⟨k1, i1, b1, a1⟩ ⟨k2, i2, b2, a2⟩ nb he, thr_bad _ _ _ _ he, did_bad _ _ _ _ he] at hst
      have hx : doE xs k1 i1 = 3 := (doE_of ⟨g3, g4⟩).resolve_left he
      have hwx := doWs_bad (bf := b1) (af := a1) he
      rw [hx]
      rw [show (⟨k1, i1, b1, a1⟩ : Note).k = k1 from rfl, show (⟨k1, i1, b1, a1⟩ : Note).i = i1 from rfl, hx] at hst
      clear he hx
      change Calls _ _ _ _ (MaP _ M4 xs [⟨.greedy ⟨⟨k1, i1, b1, a1⟩, ⟨k2, i2, b2, a2⟩, 0, false⟩ nb, 0, 0⟩] [] (.tuple #[didV 0 note0 false false, .int .i64 3])) at hst
      refine hst.mono ?_
      rintro e w6 ⟨rfl, M6, hM6, hq6, hr6', hf6, hC6⟩
      rw [← hwx] at hM6
      clear hwx
      clear hst
      have hB6 : Below w.heap.size w w6 := Below.trans (by (repeat' (first | (with_reducible exact Below.refl _ _) | (with_reducible assumption) | (with_reducible refine Below.alloc ?_ ?_ _) | (with_reducible refine Below.drew ?_) | (with_reducible refine below_drewN ?_ _) | (with_reducible refine Below.setCell ?_ ?_ _) | (with_reducible refine Below.trans ?_ (Below.mono (by assumption) ?_)) | (first | go_size | (with_reducible exact Below.size (by assumption)) | (with_reducible exact Nat.le_trans (Below.size (by assumption)) (Below.size (by assumption))) | (refine Nat.le_trans (Below.size (by assumption)) ?_; go_size)))) : Below w.heap.size w (w5.alloc (.cells #[.int .i64 (doK xs k1 i1), .int .i64 (doI xs k1 i1), .int .u64 (doB xs k1 i1), .int .u64 (doA xs k1 i1 b1 a1)] 45))) (hC6.below (B := w.heap.size) (fun j _ hj => by have := hf4' j hj; omega) (Nat.le_trans hB5'.size (by simp)))
      have bW6 := bW.keep hC6 (fun e => absurd (hlt5 _ e) (Nat.lt_irrefl _))
      have hr7 := (hr6.keep hC6 (fun b _ hg e => hg e)).mono (G' := fun _ => True) (fun _ _ _ => trivial)
      obtain ⟨q6, hq6', hqt6, hqp6⟩ := machine1 hM6 hq6
      rw [← hr6']
      clear bW hr6 hr5' hC6 hf6 hr6' hM5 hlt5
      go_wp2_with fail
      refine (mamem_ok M6 _ _ (hM6.below (by (repeat' (first | (with_reducible exact Below.refl _ _) | (with_reducible assumption) | (with_reducible refine Below.alloc ?_ ?_ _) | (with_reducible refine Below.drew ?_) | (with_reducible refine below_drewN ?_ _) | (with_reducible refine Below.setCell ?_ ?_ _) | (with_reducible refine Below.trans ?_ (Below.mono (by assumption) ?_)) | (first | go_size | (with_reducible exact Below.size (by assumption)) | (with_reducible exact Nat.le_trans (Below.size (by assumption)) (Below.size (by assumption))) | (refine Nat.le_trans (Below.size (by assumption)) ?_; go_size))))))).mono ?_
      rintro e w7 ⟨b7, g7, cc7, rfl, hm7, _, _, hB7⟩
      have bW7 := (bW6.keep ((Ch.refl (fun _ => False) _).alloc _) (fun e => e)).keep (Ch.of_below hB7 (fun _ => False)) (fun e => e)
      have bD7 := (Blk.new w6 47 [.int .i64 0, .int .i64 0, .int .i64 0, .int .u64 0, .int .u64 0, .bool false, .bool false]).keep (Ch.of_below hB7 (fun _ => False)) (fun e => e)
      have hr8 := (hr7.keep ((Ch.refl (fun _ => False) _).alloc _) (fun _ _ _ e => e)).keep (Ch.of_below hB7 (fun _ => False)) (fun _ _ _ e => e)
      have hB7' : Below w.heap.size w w7 := by (repeat' (first | (with_reducible exact Below.refl _ _) | (with_reducible assumption) | (with_reducible refine Below.alloc ?_ ?_ _) | (with_reducible refine Below.drew ?_) | (with_reducible refine below_drewN ?_ _) | (with_reducible refine Below.setCell ?_ ?_ _) | (with_reducible refine Below.trans ?_ (Below.mono (by assumption) ?_)) | (first | go_size | (with_reducible exact Below.size (by assumption)) | (with_reducible exact Nat.le_trans (Below.size (by assumption)) (Below.size (by assumption))) | (refine Nat.le_trans (Below.size (by assumption)) ?_; go_size))))
      have hM7 := (hM6.below (w' := w6.alloc _) (by (repeat' (first | (with_reducible exact Below.refl _ _) | (with_reducible assumption) | (with_reducible refine Below.alloc ?_ ?_ _) | (with_reducible refine Below.drew ?_) | (with_reducible refine below_drewN ?_ _) | (with_reducible refine Below.setCell ?_ ?_ _) | (with_reducible refine Below.trans ?_ (Below.mono (by assumption) ?_)) | (first | go_size | (with_reducible exact Below.size (by assumption)) | (with_reducible exact Nat.le_trans (Below.size (by assumption)) (Below.size (by assumption))) | (refine Nat.le_trans (Below.size (by assumption)) ?_; go_size)))))).below hB7
      obtain ⟨r6, _, _, hG6⟩ := hqp6
      have bN7 := (hG6.n.keep ((Ch.refl (fun _ => False) _).alloc _) (fun e => e)).keep (Ch.of_below hB7 (fun _ => False)) (fun e => e)
      clear bW6 hr7 hB7 hM6 hG6 hB6
      go_wp2_with fail
      have e1 : ((doWs xs k1 i1 b1 a1).drop 0).take (xs.length - 0) = doWs xs k1 i1 b1 a1 := by rw [List.drop_zero, Nat.sub_zero, ← hwl, List.take_length]
      have hwd := mwords_ok b7 g7 cc7 (doWs xs k1 i1 b1 a1) 0 xs.length w7 hm7 (Nat.zero_le _) (by omega)
      rw [e1] at hwd
      refine hwd.mono ?_
      rintro e w8 ⟨v8, rfl, ho8, hB8⟩
      clear hwd
      have hM8 := hM7.below hB8
      have bW8 := bW7.keep (Ch.of_below hB8 (fun _ => False)) (fun e => e)
      have bD8 := bD7.keep (Ch.of_below hB8 (fun _ => False)) (fun e => e)
      have bN8 := bN7.keep (Ch.of_below hB8 (fun _ => False)) (fun e => e)
      have hr9 := hr8.keep (Ch.of_below hB8 (fun _ => False)) (fun _ _ _ e => e)
      have hB8' : Below w.heap.size w w8 := by (repeat' (first | (with_reducible exact Below.refl _ _) | (with_reducible assumption) | (with_reducible refine Below.alloc ?_ ?_ _) | (with_reducible refine Below.drew ?_) | (with_reducible refine below_drewN ?_ _) | (with_reducible refine Below.setCell ?_ ?_ _) | (with_reducible refine Below.trans ?_ (Below.mono (by assumption) ?_)) | (first | go_size | (with_reducible exact Below.size (by assumption)) | (with_reducible exact Nat.le_trans (Below.size (by assumption)) (Below.size (by assumption))) | (refine Nat.le_trans (Below.size (by assumption)) ?_; go_size))))
      clear hM7 bW7 bD7 bN7 hr8 hB8 hB7'
      obtain ⟨A8, c8, rfl, hn8, _⟩ := own_slice ho8
      have hro := (Rd.of_own ho8).mono (G' := fun _ => True) (fun _ _ _ => trivial)
      subst hnb
      have s0 := bW8.cell 0
      have s1 := bW8.cell 1
      have s2 := bW8.cell 2
      have s3 := bW8.cell 3
      have t0 := bD8.cell 0
      have t1 := bD8.cell 1
      have t2 := bD8.cell 2
      have t3 := bD8.cell 3
      have t4 := bD8.cell 4
      have t5 := bD8.cell 5
      have t6 := bD8.cell 6
      have u0 := bN8.cell 0
      simp only [List.getElem?_cons_zero, List.getElem?_cons_succ] at s0 s1 s2 s3 t0 t1 t2 t3 t4 t5 t6 u0
      go_wp2_with fail
      refine (rsame_any A8 A5 (doWs xs k1 i1 b1 a1) (doWs xs k1 i1 b1 a1) xs.length xs.length c8 c5 w8 hro hr9 hwl hwl (by omega) (by omega) (by omega) hc5).mono ?_
      rintro e w9 ⟨rfl, qq, rfl⟩
      rw [show eqB (doWs xs k1 i1 b1 a1) (doWs xs k1 i1 b1 a1) = true from decide_eq_true rfl]
      have hM9 := hM8.below (below_drewN (Below.refl _ _) qq)
      clear ho8 hro hr9 bW8 bD8 bN8
      generalize doK xs k1 i1 = p1 at *
      generalize doI xs k1 i1 = p2 at *
      generalize doB xs k1 i1 = p3 at *
      generalize doA xs k1 i1 b1 a1 = p4 at *
      go_wp2_with fail
      refine (madone_in M6 _ 0 q6 _ hM9 (by rw [hq6']; rfl)).mono ?_
      rintro e w9 ⟨rfl, rfl⟩
      rw [hqt6]
      go_wp2_with fail
      refine (masteps_in M6 _ 0 q6 _ hM9 (by rw [hq6']; rfl)).mono ?_
      rintro e w9 ⟨rfl, rfl⟩
      rw [hqt6]
      clear hM9 hM8
      go_wp2_with fail
      refine (known_ok _).mono ?_
      rintro e w10 ⟨rfl, hB10⟩
      go_wp2
      go_ret
      exact ⟨rfl, by (repeat' (first | (with_reducible exact Below.refl _ _) | (with_reducible assumption) | (with_reducible refine Below.alloc ?_ ?_ _) | (with_reducible refine Below.drew ?_) | (with_reducible refine below_drewN ?_ _) | (with_reducible refine Below.setCell ?_ ?_ _) | (with_reducible refine Below.trans ?_ (Below.mono (by assumption) ?_)) | (first | go_size | (with_reducible exact Below.size (by assumption)) | (with_reducible exact Nat.le_trans (Below.size (by assumption)) (Below.size (by assumption))) | (refine Nat.le_trans (Below.size (by assumption)) ?_; go_size))))⟩
  · go_enter Try.func7, Try.ntmps7
    by_cases e1 : xs.length < 1
    · have d1 : decide ((xs.length : Int) < 1) = true := decide_eq_true (by omega)
      go_wp2_with fail
      refine (known_ok _).mono ?_
      rintro e w10 ⟨rfl, hB10⟩
      go_wp2
      go_ret
      exact ⟨rfl, by (repeat' (first | (with_reducible exact Below.refl _ _) | (with_reducible assumption) | (with_reducible refine Below.alloc ?_ ?_ _) | (with_reducible refine Below.drew ?_) | (with_reducible refine below_drewN ?_ _) | (with_reducible refine Below.setCell ?_ ?_ _) | (with_reducible refine Below.trans ?_ (Below.mono (by assumption) ?_)) | (first | go_size | (with_reducible exact Below.size (by assumption)) | (with_reducible exact Nat.le_trans (Below.size (by assumption)) (Below.size (by assumption))) | (refine Nat.le_trans (Below.size (by assumption)) ?_; go_size))))⟩
    have d1 : decide ((xs.length : Int) < 1) = false := decide_eq_false (by omega)
    by_cases e2 : 20 < xs.length
    · have d2 : decide ((20 : Int) < xs.length) = true := decide_eq_true (by omega)
      go_wp2_with fail
      refine (known_ok _).mono ?_
      rintro e w10 ⟨rfl, hB10⟩
      go_wp2
      go_ret
      exact ⟨rfl, by (repeat' (first | (with_reducible exact Below.refl _ _) | (with_reducible assumption) | (with_reducible refine Below.alloc ?_ ?_ _) | (with_reducible refine Below.drew ?_) | (with_reducible refine below_drewN ?_ _) | (with_reducible refine Below.setCell ?_ ?_ _) | (with_reducible refine Below.trans ?_ (Below.mono (by assumption) ?_)) | (first | go_size | (with_reducible exact Below.size (by assumption)) | (with_reducible exact Nat.le_trans (Below.size (by assumption)) (Below.size (by assumption))) | (refine Nat.le_trans (Below.size (by assumption)) ?_; go_size))))⟩
    have d2 : decide ((20 : Int) < xs.length) = false := decide_eq_false (by omega)
    by_cases e3 : 1 ≤ k1 ∧ k1 ≤ 4
    · have e4 : k2 < 1 ∨ 4 < k2 := by omega
      go_wp2_with fail
      refine (rkind_yes k1 _ e3.1 e3.2).mono ?_
      rintro e w' ⟨rfl, rfl⟩
      go_wp2_with fail
      refine (rkind_no k2 _ e4).mono ?_
      rintro e w' ⟨rfl, rfl⟩
      go_wp2_with fail
      refine (known_ok _).mono ?_
      rintro e w10 ⟨rfl, hB10⟩
      go_wp2
      go_ret
      exact ⟨rfl, by (repeat' (first | (with_reducible exact Below.refl _ _) | (with_reducible assumption) | (with_reducible refine Below.alloc ?_ ?_ _) | (with_reducible refine Below.drew ?_) | (with_reducible refine below_drewN ?_ _) | (with_reducible refine Below.setCell ?_ ?_ _) | (with_reducible refine Below.trans ?_ (Below.mono (by assumption) ?_)) | (first | go_size | (with_reducible exact Below.size (by assumption)) | (with_reducible exact Nat.le_trans (Below.size (by assumption)) (Below.size (by assumption))) | (refine Nat.le_trans (Below.size (by assumption)) ?_; go_size))))⟩
    · have e4 : k1 < 1 ∨ 4 < k1 := by omega
      go_wp2_with fail
      refine (rkind_no k1 _ e4).mono ?_
      rintro e w' ⟨rfl, rfl⟩
      go_wp2_with fail
      refine (known_ok _).mono ?_
      rintro e w10 ⟨rfl, hB10⟩
      go_wp2
      go_ret
      exact ⟨rfl, by (repeat' (first | (with_reducible exact Below.refl _ _) | (with_reducible assumption) | (with_reducible refine Below.alloc ?_ ?_ _) | (with_reducible refine Below.drew ?_) | (with_reducible refine below_drewN ?_ _) | (with_reducible refine Below.setCell ?_ ?_ _) | (with_reducible refine Below.trans ?_ (Below.mono (by assumption) ?_)) | (first | go_size | (with_reducible exact Below.size (by assumption)) | (with_reducible exact Nat.le_trans (Below.size (by assumption)) (Below.size (by assumption))) | (refine Nat.le_trans (Below.size (by assumption)) ?_; go_size))))⟩
end ThreadOnce
end Go.Proofs.Ytmbofohdjdipdaa
