/-
  Layer 12's helpers: the machine of the examples, and what is asked of a machine.
-/
import Derived.Test.YtmbofohdjdipdaaLTh1
namespace Go.Proofs.Ytmbofohdjdipdaa
open Go.RowKit

/-! ### what a list of threads answers -/
def doneOf (ts : List Thr) (j : Nat) : Bool := match ts[j]? with | some t => t.x.done | none => false
def resOf (ts : List Thr) (j : Nat) : Int := match ts[j]? with | some t => t.x.res | none => 0
def stepsOf (ts : List Thr) (j : Nat) : Int := match ts[j]? with | some t => t.steps | none => 0
def looksOf (ts : List Thr) (j : Nat) : Int := match ts[j]? with | some t => t.looks | none => 0
def waitsOf (ws : List Int) (ts : List Thr) (j : Nat) : Bool := match ts[j]? with | some t => waitsB ws t.x | none => false
/-- a machine stands: its words, its threads, none of which shares anything -/
structure MS (w : World) (M : MaR) (ws : List Int) (ts : List Thr) : Prop where
  at_ : MaAt w M ws
  tq : M.qs.map (·.t) = ts
  sh : ∀ t ∈ ts, t.x.shares = []
section
variable {w w' : World} {M : MaR} {ws : List Int} {ts : List Thr}
theorem MS.shq (h : MS w M ws ts) : ∀ q ∈ M.qs, q.t.x.shares = [] := fun q hq => h.sh q.t (by rw [← h.tq]; exact List.mem_map_of_mem hq)
theorem MS.keep {F : Nat → Prop} (h : MS w M ws ts) (hc : Ch F w w') (hF : Mut w F) (hf : ∀ k, M.foot k → ¬ F k) : MS w' M ws ts := ⟨h.at_.keep hc hF hf, h.tq, h.sh⟩
theorem MS.below (h : MS w M ws ts) (hb : Below w.heap.size w w') : MS w' M ws ts := ⟨h.at_.below hb, h.tq, h.sh⟩
theorem MS.get (h : MS w M ws ts) (j : Nat) : (∃ q, M.qs[j]? = some q ∧ ts[j]? = some q.t) ∨ (((j : Int) < 0 ∨ (M.qs.length : Int) ≤ j) ∧ ts[j]? = none) := by
  by_cases hj : j < M.qs.length
  · refine .inl ⟨M.qs[j], List.getElem?_eq_getElem hj, ?_⟩
    rw [← h.tq, List.getElem?_map, List.getElem?_eq_getElem hj]
    rfl
  · refine .inr ⟨.inr (by omega), ?_⟩
    rw [← h.tq]
    exact List.getElem?_eq_none (by simp; omega)
theorem MS.len (h : MS w M ws ts) : M.qs.length = ts.length := by
  rw [← h.tq, List.length_map]
variable (h : MS w M ws ts) (j : Nat)
include h
theorem ms_done : Calls Try.prog 28 #[.pointer (some ⟨M.r, 0, none⟩), .int .i64 j] w fun e w' => e = .returned (.bool (doneOf ts j)) ∧ w = w' := by
  unfold doneOf
  rcases h.get j with ⟨q, hq, ht⟩ | ⟨ho, ht⟩
  · rw [ht]; exact madone_in M ws j q w h.at_ hq
  · rw [ht]; exact madone_out M ws j w h.at_ ho
theorem ms_result : Calls Try.prog 29 #[.pointer (some ⟨M.r, 0, none⟩), .int .i64 j] w fun e w' => e = .returned (.int .u64 (resOf ts j)) ∧ w = w' := by
  unfold resOf
  rcases h.get j with ⟨q, hq, ht⟩ | ⟨ho, ht⟩
  · rw [ht]; exact maresult_in M ws j q w h.at_ hq
  · rw [ht]; exact maresult_out M ws j w h.at_ ho
theorem ms_steps : Calls Try.prog 27 #[.pointer (some ⟨M.r, 0, none⟩), .int .i64 j] w fun e w' => e = .returned (.int .i64 (stepsOf ts j)) ∧ w = w' := by
  unfold stepsOf
  rcases h.get j with ⟨q, hq, ht⟩ | ⟨ho, ht⟩
  · rw [ht]; exact masteps_in M ws j q w h.at_ hq
  · rw [ht]; exact masteps_out M ws j w h.at_ ho
theorem ms_looks : Calls Try.prog 39 #[.pointer (some ⟨M.r, 0, none⟩), .int .i64 j] w fun e w' => e = .returned (.int .i64 (looksOf ts j)) ∧ w = w' := by
  unfold looksOf
  rcases h.get j with ⟨q, hq, ht⟩ | ⟨ho, ht⟩
  · rw [ht]; exact malooks_in M ws j q w h.at_ hq
  · rw [ht]; exact malooks_out M ws j w h.at_ ho
def MsP (w : World) (M : MaR) (ws : List Int) (ts : List Thr) (v : Value) (e : Ending) (w' : World) : Prop := e = .returned v ∧ MS w' M ws ts ∧ Ch (fun k => k = M.b ∨ k = M.g) w w'
theorem ms_waits : Calls Try.prog 36 #[.pointer (some ⟨M.r, 0, none⟩), .int .i64 j] w (MsP w M ws ts (.bool (waitsOf ws ts j))) := by
  unfold waitsOf
  rcases h.get j with ⟨q, hq, ht⟩ | ⟨ho, ht⟩
  · rw [ht]
    exact (waits_any M ws j q w h.at_ hq (h.shq q (List.mem_of_getElem? hq))).mono fun e w' ⟨h1, h2, h3⟩ => ⟨h1, ⟨h2, h.tq, h.sh⟩, h3⟩
  · rw [ht]
    exact (mawaits_out M ws j w h.at_ ho).mono fun e w' ⟨h1, h2⟩ => ⟨h1, h2 ▸ h, h2 ▸ Ch.refl _ _⟩
theorem ms_stuck : Calls Try.prog 37 #[.pointer (some ⟨M.r, 0, none⟩)] w (MsP w M ws ts (.bool (stuckB ws ts))) := by
  have := stuck_ok M ws w h.at_ h.shq
  rw [h.tq] at this
  exact this.mono fun e w' ⟨h1, h2, h3⟩ => ⟨h1, ⟨h2, h.tq, h.sh⟩, h3⟩
def MsQ (w : World) (M : MaR) (ws : List Int) (ts : List Thr) (v : Value) (e : Ending) (w' : World) : Prop := e = .returned v ∧ ∃ M', MS w' M' ws ts ∧ M'.r = M.r ∧ (∀ k, M'.foot k → M.foot k ∨ w.heap.size ≤ k) ∧ Ch M.foot w w'
omit h in
theorem thrN_shares (t : Thr) (ws : List Int) : (thrN t (oStep ws t.x)).x.shares = t.x.shares := by
  unfold thrN
  split <;> exact oStep_shares ws t.x
omit h in
theorem rStep_shares {s : RS} (hs : ∀ t ∈ s.ts, t.x.shares = []) (j : Nat) : ∀ t ∈ (rStep s j).ts, t.x.shares = [] := by
  unfold rStep
  cases ht : s.ts[j]? with
  | none => exact hs
  | some q =>
    dsimp only
    split
    · exact hs
    · split
      · intro t hm
        rcases List.mem_or_eq_of_mem_set hm with hm | rfl
        · exact hs t hm
        · rw [thrN_shares]
          exact hs q (List.mem_of_getElem? ht)
      · exact hs
omit h in
theorem runS_shares : ∀ (ps : List Nat) (s : RS), (∀ t ∈ s.ts, t.x.shares = []) → ∀ t ∈ (runS s ps).ts, t.x.shares = []
  | [], s, hs => hs
  | p :: ps, s, hs => by
    have h1 := rStep_shares hs p
    unfold runS
    split
    · exact runS_shares ps _ h1
    · exact h1
end
section
variable {w : World} {M : MaR} {ws : List Int} {ts : List Thr}
theorem ms_add (h : MS w M ws ts) (d : Pif) (fs : List Nat) (x : Pg) (hp : ProgAt w d fs x) (hsh : x.shares = []) (hn : ts.length < 64) :
    Calls Try.prog 21 #[.pointer (some ⟨M.r, 0, none⟩), d.v] w (MsQ w M ws (ts ++ [⟨x, 0, 0⟩]) (.tuple #[.int .i64 ts.length, .int .i64 0])) := by
  rw [← h.len] at hn ⊢
  refine (add_ok M ws d fs x w h.at_ hp (fun k hk => by rw [hsh] at hk; cases hk) hn).mono ?_
  rintro e w' ⟨rfl, M', h1, h2, h3, h4, h5⟩
  refine ⟨rfl, M', ⟨h1, by rw [h2, h.tq], fun t ht => ?_⟩, h3, fun k hk => ?_, h5⟩
  · rcases List.mem_append.1 ht with ht | ht
    · exact h.sh t ht
    · rw [List.mem_singleton] at ht
      subst ht
      exact hsh
  · rcases h4 k hk with e | e | e
    · exact .inl e
    · exact .inr e
    · rw [hsh] at e; cases e
theorem ms_put (h : MS w M ws ts) (j : Nat) (t : Thr) (ht : ts[j]? = some t) (hd : t.x.done = true) (d : Pif) (fs : List Nat) (x : Pg) (hp : ProgAt w d fs x) (hsh : x.shares = []) :
    Calls Try.prog 35 #[.pointer (some ⟨M.r, 0, none⟩), .int .i64 j, d.v] w (MsQ w M ws (ts.set j ⟨x, t.steps, t.looks⟩) (.int .i64 0)) := by
  rcases h.get j with ⟨q, hq, ht2⟩ | ⟨_, ht2⟩
  · rw [ht] at ht2
    injection ht2 with ht2
    subst ht2
    refine (put_ok M ws j q d fs x w h.at_ hq hp hd hsh).mono ?_
    rintro e w' ⟨rfl, M', h1, h2, h3, h4, h5⟩
    refine ⟨rfl, M', ⟨h1, by rw [h2, h.tq], fun t ht => ?_⟩, h3, fun k hk => ?_, h5⟩
    · rcases List.mem_or_eq_of_mem_set ht with ht | rfl
      · exact h.sh t ht
      · exact hsh
    · rcases h4 k hk with e | e | e
      · exact .inl e
      · exact .inr e
      · cases e
  · rw [ht] at ht2; cases ht2
theorem ms_put_state (h : MS w M ws ts) (j : Nat) (t : Thr) (ht : ts[j]? = some t) (hd : t.x.done = false) (d : Pif) (fs : List Nat) (x : Pg) (hp : ProgAt w d fs x) :
    Calls Try.prog 35 #[.pointer (some ⟨M.r, 0, none⟩), .int .i64 j, d.v] w fun e w' => e = .returned (.int .i64 8) ∧ Below w.heap.size w w' := by
  rcases h.get j with ⟨q, hq, ht2⟩ | ⟨_, ht2⟩
  · rw [ht] at ht2
    injection ht2 with ht2
    subst ht2
    exact put_state M ws j q d fs x w h.at_ hq hp hd
  · rw [ht] at ht2; cases ht2
theorem ms_run (h : MS w M ws ts) (A : Option Addr) (ps : List Nat) (n c : Nat) (hr : Rd (fun b => b < w.heap.size) w A (i64s (ps.map Int.ofNat))) (hl : ps.length = n) (hn : n ≤ 100000) (hp : ∀ p ∈ ps, p < ts.length) (he : (runS ⟨ws, ts, [], 0⟩ ps).e = 0) :
    Calls Try.prog 18 #[.pointer (some ⟨M.r, 0, none⟩), .slice A n c] w fun e w' => ∃ v, w'.ownsRow w.heap.size 47 7 v (runS ⟨ws, ts, [], 0⟩ ps).out.length (dds (runS ⟨ws, ts, [], 0⟩ ps).out) ∧
      MsQ w M (runS ⟨ws, ts, [], 0⟩ ps).ws (runS ⟨ws, ts, [], 0⟩ ps).ts (.tuple #[v, .int .i64 0]) e w' := by
  have hk := run_ok M ws A ps n c w h.at_ h.shq hr hl hn (by rw [h.len]; exact hp)
  rw [h.tq] at hk
  refine hk.mono ?_
  intro e w' hR
  unfold RunP at hR
  rw [if_pos he] at hR
  obtain ⟨v, rfl, h1, M', h2, h3, h4, h5, h6⟩ := hR
  refine ⟨v, h1, rfl, M', ⟨h2, h3, runS_shares ps _ h.sh⟩, h4, fun k hk => (h5 k hk).imp (fun e => by subst e; exact .inl rfl) id, h6.mono (fun k _ e => by subst e; exact .inl rfl)⟩
theorem ms_run_bad (h : MS w M ws ts) (A : Option Addr) (ps : List Nat) (n c : Nat) (hr : Rd (fun b => b < w.heap.size) w A (i64s (ps.map Int.ofNat))) (hl : ps.length = n) (hn : n ≤ 100000) (hp : ∀ p ∈ ps, p < ts.length) (he : (runS ⟨ws, ts, [], 0⟩ ps).e ≠ 0) :
    Calls Try.prog 18 #[.pointer (some ⟨M.r, 0, none⟩), .slice A n c] w fun e w' => e = .returned (.tuple #[.slice none 0 0, .int .i64 (runS ⟨ws, ts, [], 0⟩ ps).e]) ∧ MS w' M ws ts ∧ Below w.heap.size w w' := by
  have hk := run_ok M ws A ps n c w h.at_ h.shq hr hl hn (by rw [h.len]; exact hp)
  rw [h.tq] at hk
  refine hk.mono ?_
  intro e w' hR
  unfold RunP at hR
  rw [if_neg he] at hR
  exact ⟨hR.1, ⟨hR.2.1, h.tq, h.sh⟩, hR.2.2⟩
end
end Go.Proofs.Ytmbofohdjdipdaa
