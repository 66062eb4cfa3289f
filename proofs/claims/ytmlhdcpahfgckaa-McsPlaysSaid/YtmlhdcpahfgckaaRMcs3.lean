/-
  Contracts of the reference of mcs: a step of a program on words; what it has in common with the program's own step.
-/
import Derived.Test.YtmlhdcpahfgckaaRMcs2
namespace Go.Proofs.Ytmlhdcpahfgckaa
open Go.RowKit

/-- what a program of the reference must be -/
structure ROk (B t : Int) (bk : Bool) (y : Rn) : Prop where
  B0 : 0 ≤ B
  B1 : B ≤ 65536
  t1 : 1 ≤ t
  t2 : t ≤ 64
  n0 : 0 ≤ y.node
  n1 : y.node < t * 2
  o0 : y.ended = false → 0 ≤ y.other
  pc : y.ended = false → pcOk bk y
theorem racc_any (B t : Int) (bk : Bool) (y : Rn) (w : World) (h : ROk B t bk y) : Calls Try.prog 34 #[rrun B t bk y] w (AccP w (accOf B t bk y)) := by
  obtain ⟨h1, h2, h3, h4, h5, h6, ho, h7⟩ := h
  obtain ⟨lock, node, pc, other, ended⟩ := y
  dsimp only at h5 h6 ho h7
  unfold accOf
  dsimp only
  by_cases he : ended = true
  · rw [if_pos he]
    subst he
    exact racc_end_b B t lock node other w h1 h2 h3 h4 h5 h6 bk pc
  rw [if_neg he]
  obtain rfl : ended = false := by simpa using he
  have hp := h7 rfl
  unfold pcOk at hp
  dsimp only at hp
  by_cases hb : pc = 4 ∧ ¬ (1 ≤ other ∧ other ≤ t * 2)
  · rw [if_pos hb]
    obtain ⟨rfl, hb⟩ := hb
    by_cases hz : other = 0
    · exact racc_bad_lo B t lock node other w h1 h2 h3 h4 h5 h6 bk hz
    · exact racc_bad_hi B t lock node other w h1 h2 h3 h4 h5 h6 bk (by have := ho rfl; omega)
  rw [if_neg hb]
  have hb4 : pc = 4 → 1 ≤ other ∧ other ≤ t * 2 := fun e => Classical.byContradiction fun h => hb ⟨e, h⟩
  cases bk
  · simp only [Bool.false_eq_true, if_false] at hp ⊢
    by_cases p1 : pc = 1
    · subst p1; rw [if_pos rfl]; exact racc_a1 B t lock node other w h1 h2 h3 h4 h5 h6
    rw [if_neg p1]
    by_cases p2 : pc = 2
    · subst p2; rw [if_pos rfl]; exact racc_a2 B t lock node other w h1 h2 h3 h4 h5 h6
    rw [if_neg p2]
    by_cases p3 : pc = 3
    · subst p3; rw [if_pos rfl]; exact racc_a3 B t lock node other w h1 h2 h3 h4 h5 h6
    rw [if_neg p3]
    by_cases p4 : pc = 4
    · subst p4; rw [if_pos rfl]; exact racc_a4 B t lock node other w h1 h2 h3 h4 h5 h6 (hb4 rfl)
    rw [if_neg p4]
    obtain rfl : pc = 5 := by omega
    exact racc_a5 B t lock node other w h1 h2 h3 h4 h5 h6
  · simp only [if_true] at hp ⊢
    by_cases p1 : pc = 1 ∨ pc = 3
    · rw [if_pos p1]
      rcases p1 with rfl | rfl
      · exact racc_r1 B t lock node other w h1 h2 h3 h4 h5 h6
      · exact racc_r3 B t lock node other w h1 h2 h3 h4 h5 h6
    rw [if_neg p1]
    by_cases p2 : pc = 2
    · subst p2; rw [if_pos rfl]; exact racc_r2 B t lock node other w h1 h2 h3 h4 h5 h6
    rw [if_neg p2]
    obtain rfl : pc = 4 := by omega
    exact racc_r4 B t lock node other w h1 h2 h3 h4 h5 h6 (hb4 rfl)
theorem raft_any (B t : Int) (bk : Bool) (y : Rn) (k i bef af : Int) (w : World) (h : ROk B t bk y) (he : y.ended = false) : Calls Try.prog 36 #[rrun B t bk y, acc4 k i bef af] w (AftP w (rrun B t bk (aft bk y bef).1) (aft bk y bef).2) := by
  obtain ⟨h1, h2, h3, h4, h5, h6, _, h7⟩ := h
  have hp := h7 he
  obtain ⟨lock, node, pc, other, ended⟩ := y
  dsimp only at h5 h6 hp he
  subst he
  unfold pcOk at hp
  dsimp only at hp
  unfold aft
  dsimp only
  cases bk
  · simp only [Bool.false_eq_true, if_false] at hp ⊢
    by_cases p3 : pc = 3
    · subst p3; rw [if_pos rfl]; exact raft_a3 B t lock node other k i bef af w
    rw [if_neg p3]
    by_cases p5 : pc = 5
    · subst p5; rw [if_pos rfl]; exact raft_a5 B t lock node other k i bef af w
    rw [if_neg p5]
    have h124 : pc = 1 ∨ pc = 2 ∨ pc = 4 := by omega
    rcases h124 with rfl | rfl | rfl
    · exact raft_a1 B t lock node other k i bef af w
    · exact raft_a2 B t lock node other k i bef af w
    · exact raft_a4 B t lock node other k i bef af w
  · simp only [if_true] at hp ⊢
    by_cases p1 : pc = 1 ∨ pc = 3
    · rw [if_pos p1]
      by_cases hb : bef ≠ 0
      · rw [if_pos hb]
        rcases p1 with rfl | rfl
        · exact raft_r1n B t lock node other k i bef af w hb
        · exact raft_r3n B t lock node other k i bef af w hb
      · rw [if_neg hb]
        have hb : bef = 0 := by simpa using hb
        rcases p1 with rfl | rfl
        · rw [if_neg (by omega)]; exact raft_r1z B t lock node other k i bef af w hb
        · rw [if_pos rfl]; exact raft_r3z B t lock node other k i bef af w hb
    rw [if_neg p1]
    by_cases p2 : pc = 2
    · subst p2; rw [if_pos rfl]; exact raft_r2 B t lock node other k i bef af w h5 (by omega)
    rw [if_neg p2]
    obtain rfl : pc = 4 := by omega
    exact raft_r4 B t lock node other k i bef af w
def nxt (bk : Bool) (B t : Int) (y : Rn) (ws : List Int) : Out :=
  if (accOf B t bk y).e ≠ 0 then ⟨y, ws, false, (accOf B t bk y).e⟩
  else if doE ws (accOf B t bk y).k (accOf B t bk y).i ≠ 0 then ⟨y, ws, false, doE ws (accOf B t bk y).k (accOf B t bk y).i⟩
  else ⟨(aft bk y (doB ws (accOf B t bk y).k (accOf B t bk y).i)).1, doWs ws (accOf B t bk y).k (accOf B t bk y).i (accOf B t bk y).bf (accOf B t bk y).af, (aft bk y (doB ws (accOf B t bk y).k (accOf B t bk y).i)).2, 0⟩
theorem accOf_ended {B t : Int} {bk : Bool} {y : Rn} (h : (accOf B t bk y).e = 0) : y.ended = false := by
  cases e : y.ended
  · rfl
  · unfold accOf at h
    rw [if_pos e] at h
    cases h
theorem accOf_af {B t : Int} {bk : Bool} {y : Rn} (h : ROk B t bk y) : 0 ≤ (accOf B t bk y).af ∧ (accOf B t bk y).af ≤ 18446744073709551615 := by
  have h1 := h.n0
  have h2 := h.n1
  have h3 := h.t2
  unfold accOf
  (repeat' split) <;> dsimp only <;> omega
/-- the program and the reference's are the same, unless both have ended -/
structure Eqv (x y : Rn) : Prop where
  lock : y.lock = x.lock
  node : y.node = x.node
  ended : y.ended = x.ended
  rest : x.ended = false → y = x
theorem doWs_err (ws : List Int) (k i bf af : Int) (h : doE ws k i ≠ 0) : doWs ws k i bf af = ws := by
  unfold doWs
  rw [if_neg]
  rintro ⟨h1, h2, h3, h4, _⟩
  apply h
  unfold doE
  rw [if_neg (by omega), if_neg (by omega)]
theorem doB_err (ws : List Int) (k i : Int) (h : doE ws k i ≠ 0) : doB ws k i = 0 := by unfold doB; rw [if_neg h]
structure Agree (s o : Out) : Prop where
  ws : o.ws = s.ws
  wt : o.wt = s.wt
  e : o.e = s.e
  x : Eqv s.x o.x
theorem Eqv.refl (x : Rn) : Eqv x x := ⟨rfl, rfl, rfl, fun _ => rfl⟩
theorem aft_fix (bk : Bool) (y : Rn) (bef : Int) : (aft bk y bef).1.lock = y.lock ∧ (aft bk y bef).1.node = y.node := by
  unfold aft
  (repeat' split) <;> exact ⟨rfl, rfl⟩
theorem Agree.refl (o : Out) : Agree o o := ⟨rfl, rfl, rfl, Eqv.refl _⟩
theorem nxt_stp (bk : Bool) (B t : Int) (x y : Rn) (ws : List Int) (hE : Eqv x y) (hp : pcOk bk x) : Agree (stp bk B t x ws) (nxt bk B t y ws) := by
  cases he : x.ended
  · obtain rfl := hE.rest he
    obtain ⟨lock, node, pc, other, ended⟩ := y
    dsimp only at he
    subst he
    unfold pcOk at hp
    dsimp only at hp
    cases bk
    · simp only [Bool.false_eq_true, if_false] at hp
      rw [show ∀ z, stp false B t z ws = stpA B t z ws from fun _ => rfl]
      have h5 : pc = 1 ∨ pc = 2 ∨ pc = 3 ∨ pc = 4 ∨ pc = 5 := by omega
      rcases h5 with rfl | rfl | rfl | rfl | rfl
      · by_cases hd : doE ws 2 (B + 3 * node) = 0
        · simp [stpA, nxt, accOf, aft, adv, hd]; exact Agree.refl _
        · simp [stpA, nxt, accOf, adv, hd, doWs_err ws 2 _ 0 0 hd]; exact Agree.refl _
      · by_cases hd : doE ws 2 (B + 3 * node + 1) = 0
        · simp [stpA, nxt, accOf, aft, adv, hd]; exact Agree.refl _
        · simp [stpA, nxt, accOf, adv, hd, doWs_err ws 2 _ 0 1 hd]; exact Agree.refl _
      · by_cases hd : doE ws 4 lock = 0
        · by_cases hb : doB ws 4 lock = 0
          · simp [stpA, nxt, accOf, aft, hd, hb]; exact ⟨rfl, rfl, rfl, rfl, rfl, rfl, fun h => by cases h⟩
          · simp [stpA, nxt, accOf, aft, hd, hb]; rw [show (doB ws 4 lock == 0) = false by simpa using hb]; exact Agree.refl _
        · simp [stpA, nxt, accOf, hd, doB_err ws 4 lock hd, doWs_err ws 4 lock 0 (node + 1) hd]; rw [show (doE ws 4 lock == 0) = false by simpa using hd]; exact Agree.refl _
      · by_cases hr : 1 ≤ other ∧ other ≤ t * 2
        · by_cases hd : doE ws 2 (B + 3 * (other - 1)) = 0
          · simp [stpA, nxt, accOf, aft, adv, hd, hr]; exact Agree.refl _
          · simp [stpA, nxt, accOf, adv, hd, hr, doWs_err ws 2 _ 0 (node + 1) hd]; exact Agree.refl _
        · simp [stpA, nxt, accOf, hr]; exact Agree.refl _
      · by_cases hd : doE ws 1 (B + 3 * node + 1) = 0
        · by_cases hb : doB ws 1 (B + 3 * node + 1) = 0
          · simp [stpA, nxt, accOf, aft, hd, hb, doWs]; exact Agree.refl _
          · simp [stpA, nxt, accOf, aft, hd, hb, doWs]; rw [show (doB ws 1 (B + 3 * node + 1) == 0) = false by simpa using hb]; exact Agree.refl _
        · simp [stpA, nxt, accOf, hd]; exact Agree.refl _
    · simp only [if_true] at hp
      rw [show ∀ z, stp true B t z ws = stpR B t z ws from fun _ => rfl]
      have h4 : pc = 1 ∨ pc = 3 ∨ pc = 2 ∨ pc = 4 := by omega
      rcases h4 with rfl | rfl | rfl | rfl
      · by_cases hd : doE ws 1 (B + 3 * node) = 0
        · by_cases hb : doB ws 1 (B + 3 * node) = 0
          · simp [stpR, nxt, accOf, aft, hd, hb, doWs]; exact Agree.refl _
          · simp [stpR, nxt, accOf, aft, hd, hb, doWs]; exact Agree.refl _
        · simp [stpR, nxt, accOf, hd]; exact Agree.refl _
      · by_cases hd : doE ws 1 (B + 3 * node) = 0
        · by_cases hb : doB ws 1 (B + 3 * node) = 0
          · simp [stpR, nxt, accOf, aft, hd, hb, doWs]; exact Agree.refl _
          · simp [stpR, nxt, accOf, aft, hd, hb, doWs]; exact Agree.refl _
        · simp [stpR, nxt, accOf, hd]; exact Agree.refl _
      · by_cases hd : doE ws 3 lock = 0
        · by_cases hb : doB ws 3 lock = node + 1
          · simp [stpR, nxt, accOf, aft, hd, hb]; exact ⟨rfl, rfl, rfl, rfl, rfl, rfl, fun h => by cases h⟩
          · simp [stpR, nxt, accOf, aft, adv, hd, hb]
            have e : (doB ws 3 lock == node + 1) = false := by simpa using hb
            rw [e]
            exact Agree.refl _
        · simp [stpR, nxt, accOf, adv, hd, doWs_err ws 3 lock (node + 1) 0 hd]; exact Agree.refl _
      · by_cases hr : 1 ≤ other ∧ other ≤ t * 2
        · by_cases hd : doE ws 2 (B + 3 * (other - 1) + 1) = 0
          · simp [stpR, nxt, accOf, aft, hd, hr]; exact Agree.refl _
          · simp [stpR, nxt, accOf, hd, hr, doWs_err ws 2 _ 0 0 hd]; rw [show (doE ws 2 (B + 3 * (other - 1) + 1) == 0) = false by simpa using hd]; exact Agree.refl _
        · simp [stpR, nxt, accOf, hr]; exact Agree.refl _
  · have hy : y.ended = true := by rw [hE.ended, he]
    have h1 : stp bk B t x ws = ⟨x, ws, false, 17⟩ := by
      cases bk
      · rw [show stp false B t x ws = stpA B t x ws from rfl]; unfold stpA; rw [if_pos he]
      · rw [show stp true B t x ws = stpR B t x ws from rfl]; unfold stpR; rw [if_pos he]
    have h2 : accOf B t bk y = ⟨0, 0, 0, 0, 17⟩ := by unfold accOf; rw [if_pos hy]
    rw [h1]
    unfold nxt
    rw [h2]
    exact ⟨rfl, rfl, rfl, hE⟩
end Go.Proofs.Ytmlhdcpahfgckaa
