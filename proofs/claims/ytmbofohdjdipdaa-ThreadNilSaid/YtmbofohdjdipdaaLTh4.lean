/-
  The examples of layer 12, first part: two machines side by side, and programs beside them.
-/
import Derived.Test.YtmbofohdjdipdaaLTh3
namespace Go.Proofs.Ytmbofohdjdipdaa
open Go.RowKit

structure PgR where
  d : Pif
  fs : List Nat
  x : Pg
structure K2 (W wr : World) (rm rn : Nat) (wM : List Int) (tM : List Thr) (wN : List Int) (tN : List Thr) (ps : List PgR) : Prop where
  ex : ∃ M N, MS wr M wM tM ∧ MS wr N wN tN ∧ M.r = rm ∧ N.r = rn ∧ (∀ k, M.foot k → ¬ N.foot k) ∧ (∀ k, M.foot k → W.heap.size ≤ k) ∧ (∀ k, N.foot k → W.heap.size ≤ k) ∧ ∀ p ∈ ps, ProgAt wr p.d p.fs p.x ∧ ∀ k ∈ p.fs, ¬ M.foot k ∧ ¬ N.foot k
  b : Below W.heap.size W wr
section
variable {W wr w' : World} {rm rn : Nat} {wM wN : List Int} {tM tN : List Thr} {ps : List PgR}
theorem K2.swap (h : K2 W wr rm rn wM tM wN tN ps) : K2 W wr rn rm wN tN wM tM ps := by
  obtain ⟨⟨M, N, h1, h2, h3, h4, h5, h6, h7, h8⟩, hb⟩ := h
  exact ⟨⟨N, M, h2, h1, h4, h3, fun k hn hm => h5 k hm hn, h7, h6, fun p hp => ⟨(h8 p hp).1, fun k hk => ((h8 p hp).2 k hk).symm⟩⟩, hb⟩
theorem K2.below (h : K2 W wr rm rn wM tM wN tN ps) (hb : Below wr.heap.size wr w') : K2 W w' rm rn wM tM wN tN ps := by
  obtain ⟨⟨M, N, h1, h2, h3, h4, h5, h6, h7, h8⟩, hB⟩ := h
  exact ⟨⟨M, N, h1.below hb, h2.below hb, h3, h4, h5, h6, h7, fun p hp => ⟨(h8 p hp).1.below hb, (h8 p hp).2⟩⟩, hB.trans (hb.mono hB.size)⟩
theorem K2.drop (h : K2 W wr rm rn wM tM wN tN ps) : K2 W wr rm rn wM tM wN tN [] := by
  obtain ⟨⟨M, N, h1, h2, h3, h4, h5, h6, h7, h8⟩, hB⟩ := h
  exact ⟨⟨M, N, h1, h2, h3, h4, h5, h6, h7, fun p hp => by cases hp⟩, hB⟩
/-- the first machine has changed -/
theorem K2.step {M N : MaR} {ws : List Int} {ts : List Thr} {v : Value} {e : Ending} (h1 : MS wr M wM tM) (h2 : MS wr N wN tN) (h3 : M.r = rm) (h4 : N.r = rn) (h5 : ∀ k, M.foot k → ¬ N.foot k) (h6 : ∀ k, M.foot k → W.heap.size ≤ k) (h7 : ∀ k, N.foot k → W.heap.size ≤ k)
    (h8 : ∀ p ∈ ps, ProgAt wr p.d p.fs p.x ∧ ∀ k ∈ p.fs, ¬ M.foot k ∧ ¬ N.foot k) (hB : Below W.heap.size W wr) (hq : MsQ wr M ws ts v e w') : e = .returned v ∧ K2 W w' rm rn ws ts wN tN ps := by
  obtain ⟨he, M', g1, g2, g3, g4⟩ := hq
  have hm := h1.at_.mut
  refine ⟨he, ⟨M', N, g1, h2.keep g4 hm (fun _ hn hf => h5 _ hf hn), g2.trans h3, h4, fun k hk hn => ?_, fun k hk => ?_, h7, fun p hp => ⟨(h8 p hp).1.keep g4 hm (fun k hk => ((h8 p hp).2 k hk).1), fun k hk => ⟨fun hf => ?_, ((h8 p hp).2 k hk).2⟩⟩⟩, hB.trans (g4.below (fun k _ hf => h6 k hf) hB.size)⟩
  · rcases g3 k hk with e | e
    · exact h5 k e hn
    · have := h2.at_.lt k hn; omega
  · rcases g3 k hk with e | e
    · exact h6 k e
    · exact Nat.le_trans hB.size e
  · rcases g3 k hf with e | e
    · exact ((h8 p hp).2 k hk).1 e
    · have := (h8 p hp).1.lt k hk; omega
theorem msq_of_msp {M : MaR} {ws : List Int} {ts : List Thr} {v : Value} {e : Ending} (h : MsP wr M ws ts v e w') : MsQ wr M ws ts v e w' :=
  ⟨h.1, M, h.2.1, rfl, fun _ hk => .inl hk, h.2.2.mono (fun _ _ e => e.elim (fun e => .inr (.inl e)) (fun e => .inr (.inr (.inl e))))⟩
def KP (W : World) (rm rn : Nat) (wM : List Int) (tM : List Thr) (wN : List Int) (tN : List Thr) (ps : List PgR) (v : Value) (e : Ending) (w' : World) : Prop := e = .returned v ∧ K2 W w' rm rn wM tM wN tN ps
variable (h : K2 W wr rm rn wM tM wN tN ps)
include h
theorem k_done (j : Nat) : Calls Try.prog 28 #[.pointer (some ⟨rm, 0, none⟩), .int .i64 j] wr fun e w' => e = .returned (.bool (doneOf tM j)) ∧ wr = w' := by
  obtain ⟨⟨M, N, h1, _, rfl, _⟩, _⟩ := h
  exact ms_done h1 j
theorem k_result (j : Nat) : Calls Try.prog 29 #[.pointer (some ⟨rm, 0, none⟩), .int .i64 j] wr fun e w' => e = .returned (.int .u64 (resOf tM j)) ∧ wr = w' := by
  obtain ⟨⟨M, N, h1, _, rfl, _⟩, _⟩ := h
  exact ms_result h1 j
theorem k_steps (j : Nat) : Calls Try.prog 27 #[.pointer (some ⟨rm, 0, none⟩), .int .i64 j] wr fun e w' => e = .returned (.int .i64 (stepsOf tM j)) ∧ wr = w' := by
  obtain ⟨⟨M, N, h1, _, rfl, _⟩, _⟩ := h
  exact ms_steps h1 j
theorem k_looks (j : Nat) : Calls Try.prog 39 #[.pointer (some ⟨rm, 0, none⟩), .int .i64 j] wr fun e w' => e = .returned (.int .i64 (looksOf tM j)) ∧ wr = w' := by
  obtain ⟨⟨M, N, h1, _, rfl, _⟩, _⟩ := h
  exact ms_looks h1 j
theorem k_waits (j : Nat) : Calls Try.prog 36 #[.pointer (some ⟨rm, 0, none⟩), .int .i64 j] wr (KP W rm rn wM tM wN tN ps (.bool (waitsOf wM tM j))) := by
  obtain ⟨⟨M, N, h1, h2, rfl, h4, h5, h6, h7, h8⟩, hB⟩ := h
  exact (ms_waits h1 j).mono fun e w' hq => K2.step h1 h2 rfl h4 h5 h6 h7 h8 hB (msq_of_msp hq)
theorem k_stuck : Calls Try.prog 37 #[.pointer (some ⟨rm, 0, none⟩)] wr (KP W rm rn wM tM wN tN ps (.bool (stuckB wM tM))) := by
  obtain ⟨⟨M, N, h1, h2, rfl, h4, h5, h6, h7, h8⟩, hB⟩ := h
  exact (ms_stuck h1).mono fun e w' hq => K2.step h1 h2 rfl h4 h5 h6 h7 h8 hB (msq_of_msp hq)
theorem k_word (i : Nat) (v : Int) (hi : i < wM.length) (hv : wM.getD i 0 = v) : Calls Try.prog 54 #[.pointer (some ⟨rm, 0, none⟩), .int .i64 i, .int .u64 v] wr (KP W rm rn wM tM wN tN ps (.bool true)) := by
  have hk := h
  obtain ⟨⟨M, N, h1, h2, rfl, h4, h5, h6, h7, h8⟩, hB⟩ := h
  exact (word_ok h1 i v hi hv).mono fun e w' hq => ⟨hq.1, hk.below hq.2⟩
theorem k_runs (A : Option Addr) (qs : List Nat) (n c many : Nat) (hr : Rd (fun b => b < wr.heap.size) wr A (i64s (qs.map Int.ofNat))) (hl : qs.length = n) (hn : n ≤ 100000) (hp : ∀ p ∈ qs, p < tM.length)
    (he : (runS ⟨wM, tM, [], 0⟩ qs).e = 0) (hm : (runS ⟨wM, tM, [], 0⟩ qs).out.length = many) :
    Calls Try.prog 53 #[.pointer (some ⟨rm, 0, none⟩), .int .i64 many, .slice A n c] wr (KP W rm rn (runS ⟨wM, tM, [], 0⟩ qs).ws (runS ⟨wM, tM, [], 0⟩ qs).ts wN tN ps (.bool true)) := by
  obtain ⟨⟨M, N, h1, h2, rfl, h4, h5, h6, h7, h8⟩, hB⟩ := h
  exact (runs_ok h1 A qs n c many hr hl hn hp he hm).mono fun e w' hq => K2.step h1 h2 rfl h4 h5 h6 h7 h8 hB hq
theorem k_put (j : Nat) (t : Thr) (ht : tM[j]? = some t) (hd : t.x.done = true) (p : PgR) (hp : p ∈ ps) (hsh : p.x.shares = []) :
    Calls Try.prog 35 #[.pointer (some ⟨rm, 0, none⟩), .int .i64 j, p.d.v] wr (KP W rm rn wM (tM.set j ⟨p.x, t.steps, t.looks⟩) wN tN ps (.int .i64 0)) := by
  obtain ⟨⟨M, N, h1, h2, rfl, h4, h5, h6, h7, h8⟩, hB⟩ := h
  exact (ms_put h1 j t ht hd p.d p.fs p.x (h8 p hp).1 hsh).mono fun e w' hq => K2.step h1 h2 rfl h4 h5 h6 h7 h8 hB hq
theorem k_put_state (j : Nat) (t : Thr) (ht : tM[j]? = some t) (hd : t.x.done = false) (p : PgR) (hp : p ∈ ps) :
    Calls Try.prog 35 #[.pointer (some ⟨rm, 0, none⟩), .int .i64 j, p.d.v] wr (KP W rm rn wM tM wN tN ps (.int .i64 8)) := by
  have hk := h
  obtain ⟨⟨M, N, h1, h2, rfl, h4, h5, h6, h7, h8⟩, hB⟩ := h
  exact (ms_put_state h1 j t ht hd p.d p.fs p.x (h8 p hp).1).mono fun e w' hq => ⟨hq.1, hk.below hq.2⟩
theorem k_step_out (t : Int) (ht : t < 0 ∨ (tM.length : Int) ≤ t) :
    Calls Try.prog 16 #[.pointer (some ⟨rm, 0, none⟩), .int .i64 t] wr (KP W rm rn wM tM wN tN ps (.tuple #[didV 0 note0 false false, .int .i64 2])) := by
  have hk := h
  obtain ⟨⟨M, N, h1, h2, rfl, h4, h5, h6, h7, h8⟩, hB⟩ := h
  exact (step_out M wM t wr h1.at_ (by rw [h1.len]; exact ht)).mono fun e w' hq => ⟨hq.1, hk.below hq.2⟩
theorem k_run_out (A : Option Addr) (xs : List Int) (n c : Nat) (hr : Rd (fun _ => True) wr A (i64s xs)) (hl : xs.length = n) (hn : n ≤ 100000) (ho : xs.any (noneB tM.length) = true) :
    Calls Try.prog 18 #[.pointer (some ⟨rm, 0, none⟩), .slice A n c] wr (KP W rm rn wM tM wN tN ps (.tuple #[.slice none 0 0, .int .i64 2])) := by
  have hk := h
  obtain ⟨⟨M, N, h1, h2, rfl, h4, h5, h6, h7, h8⟩, hB⟩ := h
  exact (run_out M wM A xs n c wr h1.at_ hr hl hn (by rw [h1.len]; exact ho)).mono fun e w' hq => ⟨hq.1, hq.2 ▸ hk⟩
theorem K2.prog {x : Pg} {d : Pif} {fs : List Nat} (hb : Below wr.heap.size wr w') (hp : ProgAt w' d fs x) (hf : ∀ k ∈ fs, wr.heap.size ≤ k) : K2 W w' rm rn wM tM wN tN (⟨d, fs, x⟩ :: ps) := by
  obtain ⟨⟨M, N, h1, h2, h3, h4, h5, h6, h7, h8⟩, hB⟩ := h.below hb
  obtain ⟨⟨M', N', g1, g2, g3, g4, g5, g6, g7, g8⟩, _⟩ := h
  refine ⟨⟨M', N', g1.below hb, g2.below hb, g3, g4, g5, g6, g7, fun p hq => ?_⟩, hB⟩
  rcases List.mem_cons.1 hq with rfl | hq
  · exact ⟨hp, fun k hk => ⟨fun e => by have := g1.at_.lt k e; have := hf k hk; omega, fun e => by have := g2.at_.lt k e; have := hf k hk; omega⟩⟩
  · exact ⟨(g8 p hq).1.below hb, (g8 p hq).2⟩
omit h in
theorem k2_new {W w1 w2 : World} {M N : MaR} (b1 : Below W.heap.size W w1) (h1 : MS w1 M ws0 ts0) (f1 : ∀ k, M.foot k → W.heap.size ≤ k) (b2 : Below w1.heap.size w1 w2) (h2 : MS w2 N ws0 ts0) (f2 : ∀ k, N.foot k → w1.heap.size ≤ k) : K2 W w2 M.r N.r ws0 ts0 ws0 ts0 [] :=
  ⟨⟨M, N, h1.below b2, h2, rfl, rfl, fun k hm hn => by have := h1.at_.lt k hm; have := f2 k hn; omega, f1, fun k hk => Nat.le_trans b1.size (f2 k hk), fun p hp => by cases hp⟩, b1.trans (b2.mono b1.size)⟩
end
end Go.Proofs.Ytmbofohdjdipdaa
