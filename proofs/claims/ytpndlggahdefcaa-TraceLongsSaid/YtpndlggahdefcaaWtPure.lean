/-
  Where threads have waited: plain functions and their laws.
-/
import Derived.Test.YtpndlggahdefcaaTrPure
namespace Go.Proofs.Ytpndlggahdefcaa

structure Wt where
  t : Int
  w : Int
  f : Int
  o : Int
  b : Int
deriving DecidableEq, Inhabited
def Wt.cells (x : Wt) : List Value := [.int .i64 x.t, .int .i64 x.w, .int .i64 x.f, .int .i64 x.o, .int .i64 x.b]
/-- the word at which a thing waits, -1 for none -/
def atB (d : Dd) : Int := if d.wt = true ∧ d.k = 1 then d.w else -1
theorem atB_right {d : Dd} (h : rightB d = true) : atB d = -1 ∨ (d.wt = true ∧ d.k = 1 ∧ atB d = d.w ∧ 0 ≤ d.w) := by
  have h2 := rightB_iff.1 h
  unfold atB
  split
  · rename_i h3
    exact .inr ⟨h3.1, h3.2, rfl, by omega⟩
  · exact .inl rfl
/-- what the thread has waited at last, before k -/
def lastAt (l : List Dd) (t : Int) : Nat → Int
  | 0 => -1
  | k + 1 => match l[k]? with
    | some d => if d.t = t then atB d else lastAt l t k
    | none => lastAt l t k
theorem lastAt_succ (l : List Dd) (t : Int) (k : Nat) {d : Dd} (h : l[k]? = some d) : lastAt l t (k + 1) = if d.t = t then atB d else lastAt l t k := by
  show (match l[k]? with | some d => if d.t = t then atB d else lastAt l t k | none => lastAt l t k) = _
  rw [h]
def startB (l : List Dd) (i : Nat) : Bool := match l[i]? with | some d => decide (0 ≤ atB d ∧ lastAt l d.t i ≠ atB d) | none => false
theorem startB_iff {l : List Dd} {i : Nat} {d : Dd} (h : l[i]? = some d) : startB l i = true ↔ 0 ≤ atB d ∧ lastAt l d.t i ≠ atB d := by
  unfold startB
  rw [h]
  exact decide_eq_true_iff
/-- one thing more, of what a wait says -/
def itS (t w : Int) (n : Nat) (d : Dd) (p : Wt × Bool) : Wt × Bool :=
  if p.2 = false then p else if d.t = t then (p.1, decide (atB d = w)) else if chB d w = true then (⟨p.1.t, p.1.w, p.1.f, n, d.t⟩, true) else p
def itR (l : List Dd) (t w : Int) (i : Nat) : Nat → Wt × Bool
  | 0 => (⟨t, w, i, -1, -1⟩, true)
  | n + 1 => match l[i + 1 + n]? with
    | some d => itS t w (i + 1 + n) d (itR l t w i n)
    | none => itR l t w i n
theorem itR_next (l : List Dd) (t w : Int) (i k : Nat) {d : Dd} (hi : i < k) (h : l[k]? = some d) : itR l t w i (k - i) = itS t w k d (itR l t w i (k - 1 - i)) := by
  obtain ⟨n, rfl⟩ : ∃ n, k = i + 1 + n := ⟨k - i - 1, by omega⟩
  rw [show i + 1 + n - i = n + 1 by omega, show i + 1 + n - 1 - i = n by omega]
  show (match l[i + 1 + n]? with | some d => itS t w (i + 1 + n) d (itR l t w i n) | none => itR l t w i n) = _
  rw [h]
theorem itS_keep (t w : Int) (n : Nat) (d : Dd) (p : Wt × Bool) : (itS t w n d p).1.t = p.1.t ∧ (itS t w n d p).1.w = p.1.w ∧ (itS t w n d p).1.f = p.1.f := by
  unfold itS
  split
  · exact ⟨rfl, rfl, rfl⟩
  · split
    · exact ⟨rfl, rfl, rfl⟩
    · split
      · exact ⟨rfl, rfl, rfl⟩
      · exact ⟨rfl, rfl, rfl⟩
theorem itR_keep (l : List Dd) (t w : Int) (i : Nat) : ∀ n, (itR l t w i n).1.t = t ∧ (itR l t w i n).1.w = w ∧ (itR l t w i n).1.f = i
  | 0 => ⟨rfl, rfl, rfl⟩
  | n + 1 => by
    have ih := itR_keep l t w i n
    have hs : itR l t w i (n + 1) = match l[i + 1 + n]? with | some d => itS t w (i + 1 + n) d (itR l t w i n) | none => itR l t w i n := rfl
    rw [hs]
    cases l[i + 1 + n]? with
    | none => exact ih
    | some d =>
      have h2 := itS_keep t w (i + 1 + n) d (itR l t w i n)
      exact ⟨h2.1.trans ih.1, h2.2.1.trans ih.2.1, h2.2.2.trans ih.2.2⟩
/-! ### all waits, by definition -/
def refAt (l : List Dd) (i : Nat) : List Wt := match l[i]? with
  | some d => if startB l i = true then [(itR l d.t (atB d) i (l.length - 1 - i)).1] else []
  | none => []
def refW (l : List Dd) : Nat → List Wt
  | 0 => []
  | k + 1 => refW l k ++ refAt l k
theorem mem_refW (l : List Dd) (x : Wt) : ∀ k, x ∈ refW l k ↔ ∃ i d, i < k ∧ l[i]? = some d ∧ startB l i = true ∧ x = (itR l d.t (atB d) i (l.length - 1 - i)).1
  | 0 => ⟨fun h => (by cases h), fun ⟨_, _, h, _⟩ => (by omega)⟩
  | k + 1 => by
    show x ∈ refW l k ++ refAt l k ↔ _
    rw [List.mem_append, mem_refW l x k]
    constructor
    · rintro (⟨i, d, h1, h2⟩ | h)
      · exact ⟨i, d, by omega, h2⟩
      · unfold refAt at h
        split at h
        · rename_i d hd
          split at h
          · rename_i hs
            exact ⟨k, d, by omega, hd, hs, by simpa using h⟩
          · cases h
        · cases h
    · rintro ⟨i, d, h1, h2, h3, h4⟩
      by_cases e : i = k
      · subst e
        right
        unfold refAt
        rw [h2]
        simp only [h3, if_true, List.mem_singleton]
        exact h4
      · exact .inl ⟨i, d, by omega, h2, h3, h4⟩
theorem refW_sorted (l : List Dd) : ∀ k, (refW l k).Pairwise (fun x y => x.f < y.f)
  | 0 => List.Pairwise.nil
  | k + 1 => by
    show (refW l k ++ refAt l k).Pairwise _
    rw [List.pairwise_append]
    refine ⟨refW_sorted l k, ?_, fun x hx y hy => ?_⟩
    · unfold refAt
      split
      · split <;> simp
      · simp
    · obtain ⟨i, d, h1, h2, h3, rfl⟩ := (mem_refW l x k).1 hx
      unfold refAt at hy
      split at hy
      · split at hy
        · obtain rfl := List.mem_singleton.1 hy
          rw [(itR_keep l _ _ _ _).2.2, (itR_keep l _ _ _ _).2.2]
          omega
        · cases hy
      · cases hy
theorem refW_len (l : List Dd) : ∀ k, (refW l k).length ≤ k
  | 0 => Nat.le_refl _
  | k + 1 => by
    have := refW_len l k
    show (refW l k ++ refAt l k).length ≤ _
    rw [List.length_append]
    have h2 : (refAt l k).length ≤ 1 := by
      unfold refAt
      split
      · split <;> simp
      · simp
    omega
/-! ### thing by thing, with those that are open -/
abbrev Opn := Int → Option Wt
def wsOut (d : Dd) (f : Opn) : List Wt := match f d.t with | some x => if atB d = x.w then [] else [x] | none => []
def wsNew (i : Nat) (d : Dd) (f : Opn) : Option Wt :=
  if atB d < 0 then none else match f d.t with
    | some x => if atB d = x.w then some x else some ⟨d.t, d.w, i, -1, -1⟩
    | none => some ⟨d.t, d.w, i, -1, -1⟩
def wsMid (i : Nat) (d : Dd) (f : Opn) : Opn := fun t => if t = d.t then wsNew i d f else f t
def upW (i : Nat) (d : Dd) (x : Wt) : Wt := if chB d x.w = true then ⟨x.t, x.w, x.f, i, d.t⟩ else x
def wsF (i : Nat) (d : Dd) (f : Opn) : Opn := fun t => if t = d.t then wsNew i d f else (f t).map (upW i d)
def wsRun (l : List Dd) : Nat → List Wt × Opn
  | 0 => ([], fun _ => none)
  | k + 1 => match l[k]? with
    | some d => ((wsRun l k).1 ++ wsOut d (wsRun l k).2, wsF k d (wsRun l k).2)
    | none => wsRun l k
theorem wsRun_succ (l : List Dd) (k : Nat) {d : Dd} (h : l[k]? = some d) : wsRun l (k + 1) = ((wsRun l k).1 ++ wsOut d (wsRun l k).2, wsF k d (wsRun l k).2) := by
  show (match l[k]? with | some d => ((wsRun l k).1 ++ wsOut d (wsRun l k).2, wsF k d (wsRun l k).2) | none => wsRun l k) = _
  rw [h]
structure WI (l : List Dd) (k : Nat) (s : List Wt × Opn) : Prop where
  a : ∀ t x, s.2 t = some x → x.t = t ∧ x.w = lastAt l t k ∧ 0 ≤ x.w
  b : ∀ t, s.2 t = none → lastAt l t k < 0
  c1 : ∀ t x, s.2 t = some x → ∃ i d, i < k ∧ l[i]? = some d ∧ startB l i = true ∧ d.t = t ∧ itR l d.t (atB d) i (k - 1 - i) = (x, true)
  c2 : ∀ x ∈ s.1, ∃ i d, i < k ∧ l[i]? = some d ∧ startB l i = true ∧ itR l d.t (atB d) i (k - 1 - i) = (x, false)
  c3 : ∀ i d, i < k → l[i]? = some d → startB l i = true → ((itR l d.t (atB d) i (k - 1 - i)).2 = true → s.2 d.t = some (itR l d.t (atB d) i (k - 1 - i)).1) ∧ ((itR l d.t (atB d) i (k - 1 - i)).2 = false → (itR l d.t (atB d) i (k - 1 - i)).1 ∈ s.1)
  n : s.1.Nodup
theorem wi_zero (l : List Dd) : WI l 0 (wsRun l 0) :=
  ⟨fun t x h => (by cases h), fun t _ => (by show (-1 : Int) < 0; omega), fun t x h => (by cases h), fun x h => (by cases h), fun i d h => (by omega), List.nodup_nil⟩
theorem upW_keep (i : Nat) (d : Dd) (x : Wt) : (upW i d x).t = x.t ∧ (upW i d x).w = x.w ∧ (upW i d x).f = x.f := by
  unfold upW
  split <;> exact ⟨rfl, rfl, rfl⟩
theorem wi_step (l : List Dd) (k : Nat) {e : Dd} (he : l[k]? = some e) (hr : rightB e = true) (h : WI l k (wsRun l k)) : WI l (k + 1) (wsRun l (k + 1)) := by
  have hat := atB_right hr
  rw [wsRun_succ l k he]
  generalize wsRun l k = s at *
  obtain ⟨out, f⟩ := s
  obtain ⟨ha, hb, hc1, hc2, hc3, hn⟩ := h
  simp only at ha hb hc1 hc2 hc3 hn
  have hwe : 0 ≤ atB e → atB e = e.w := fun h => by
    rcases hat with h2 | h2
    · rw [h2] at h; exact absurd h (by decide)
    · exact h2.2.2.1
  have hlast := fun t => lastAt_succ l t k he
  have hnext : ∀ (i : Nat) (d : Dd), i < k → itR l d.t (atB d) i (k + 1 - 1 - i) = itS d.t (atB d) k e (itR l d.t (atB d) i (k - 1 - i)) := fun i d hi => by
    rw [show k + 1 - 1 - i = k - i by omega]
    exact itR_next l _ _ i k hi he
  have hself : itR l e.t (atB e) k (k + 1 - 1 - k) = (⟨e.t, atB e, k, -1, -1⟩, true) := by
    rw [show k + 1 - 1 - k = 0 by omega]
    rfl
  -- what an open one becomes
  have hopen : ∀ t x, f t = some x → t ≠ e.t → ∃ i d, i < k + 1 ∧ l[i]? = some d ∧ startB l i = true ∧ d.t = t ∧ itR l d.t (atB d) i (k + 1 - 1 - i) = (upW k e x, true) := fun t x hx hne => by
    obtain ⟨i, d, h1, h2, h3, h4, h5⟩ := hc1 t x hx
    refine ⟨i, d, by omega, h2, h3, h4, ?_⟩
    have hw : x.w = atB d := by
      have := (itR_keep l d.t (atB d) i (k - 1 - i)).2.1
      rw [h5] at this
      exact this
    rw [hnext i d h1, h5]
    unfold itS upW
    rw [if_neg (by simp), if_neg (by rw [h4]; exact fun q => hne q.symm), hw]
    split <;> rfl
  -- the thread's own
  have hown : ∀ x, f e.t = some x → ∃ i d, i < k + 1 ∧ l[i]? = some d ∧ startB l i = true ∧ d.t = e.t ∧ itR l d.t (atB d) i (k + 1 - 1 - i) = (x, decide (atB e = x.w)) := fun x hx => by
    obtain ⟨i, d, h1, h2, h3, h4, h5⟩ := hc1 e.t x hx
    refine ⟨i, d, by omega, h2, h3, h4, ?_⟩
    have hw : x.w = atB d := by
      have := (itR_keep l d.t (atB d) i (k - 1 - i)).2.1
      rw [h5] at this
      exact this
    rw [hnext i d h1, h5]
    unfold itS
    rw [if_neg (by simp), if_pos h4.symm, hw]
  have hnew : 0 ≤ atB e → lastAt l e.t k ≠ atB e → ∃ i d, i < k + 1 ∧ l[i]? = some d ∧ startB l i = true ∧ d.t = e.t ∧ itR l d.t (atB d) i (k + 1 - 1 - i) = (⟨e.t, e.w, k, -1, -1⟩, true) := fun h0 h1 => by
    refine ⟨k, e, by omega, he, (startB_iff he).2 ⟨h0, h1⟩, rfl, ?_⟩
    rw [hself]
    rw [hwe h0]
  have hnewv : ∀ x, wsNew k e f = some x → 0 ≤ atB e ∧ ((f e.t = some x ∧ atB e = x.w) ∨ (x = ⟨e.t, e.w, k, -1, -1⟩ ∧ lastAt l e.t k ≠ atB e)) := fun x hx => by
    unfold wsNew at hx
    split at hx
    · cases hx
    · refine ⟨by omega, ?_⟩
      split at hx
      · rename_i y hy
        split at hx
        · rename_i h2
          injection hx with hx
          subst hx
          exact .inl ⟨hy, h2⟩
        · rename_i h2
          injection hx with hx
          exact .inr ⟨hx.symm, fun q => h2 (q.symm.trans (ha _ _ hy).2.1.symm)⟩
      · rename_i hy
        injection hx with hx
        have := hb _ hy
        exact .inr ⟨hx.symm, fun q => by omega⟩
  refine ⟨fun t x hx => ?_, fun t hx => ?_, fun t x hx => ?_, fun x hx => ?_, fun i d hi hd hs => ?_, ?_⟩
  · -- a
    rw [hlast]
    have hx' : (if t = e.t then wsNew k e f else (f t).map (upW k e)) = some x := hx
    by_cases q : t = e.t
    · rw [if_pos q] at hx'
      rw [if_pos q.symm]
      obtain ⟨h0, h1 | h1⟩ := hnewv x hx'
      · have := ha _ _ h1.1
        exact ⟨this.1.trans q.symm, h1.2.symm, this.2.2⟩
      · rw [h1.1]
        refine ⟨q.symm, ?_, ?_⟩
        · exact (hwe h0).symm
        · exact (hwe h0) ▸ h0
    · rw [if_neg q] at hx'
      rw [if_neg (fun z => q z.symm)]
      obtain ⟨y, hy, rfl⟩ := Option.map_eq_some_iff.1 hx'
      have := ha _ _ hy
      have h2 := upW_keep k e y
      exact ⟨h2.1.trans this.1, h2.2.1.trans this.2.1, by rw [h2.2.1]; exact this.2.2⟩
  · -- b
    rw [hlast]
    have hx' : (if t = e.t then wsNew k e f else (f t).map (upW k e)) = none := hx
    by_cases q : t = e.t
    · rw [if_pos q] at hx'
      rw [if_pos q.symm]
      unfold wsNew at hx'
      split at hx'
      · assumption
      · split at hx'
        · split at hx' <;> cases hx'
        · cases hx'
    · rw [if_neg q] at hx'
      rw [if_neg (fun z => q z.symm)]
      exact hb _ (Option.map_eq_none_iff.1 hx')
  · -- c1
    have hx' : (if t = e.t then wsNew k e f else (f t).map (upW k e)) = some x := hx
    by_cases q : t = e.t
    · subst q
      rw [if_pos rfl] at hx'
      obtain ⟨h0, h1 | h1⟩ := hnewv x hx'
      · obtain ⟨i, d, a1, a2, a3, a4, a5⟩ := hown x h1.1
        exact ⟨i, d, a1, a2, a3, a4, by rw [a5, h1.2]; simp⟩
      · obtain ⟨i, d, a1, a2, a3, a4, a5⟩ := hnew h0 h1.2
        exact ⟨i, d, a1, a2, a3, a4, by rw [a5, h1.1]⟩
    · rw [if_neg q] at hx'
      obtain ⟨y, hy, rfl⟩ := Option.map_eq_some_iff.1 hx'
      exact hopen t y hy q
  · -- c2
    have hx' : x ∈ out ++ wsOut e f := hx
    rcases List.mem_append.1 hx' with hx2 | hx2
    · obtain ⟨i, d, h1, h2, h3, h4⟩ := hc2 x hx2
      refine ⟨i, d, by omega, h2, h3, ?_⟩
      rw [hnext i d h1, h4]
      rfl
    · unfold wsOut at hx2
      split at hx2
      · rename_i y hy
        split at hx2
        · cases hx2
        · rename_i hne
          obtain rfl := List.mem_singleton.1 hx2
          obtain ⟨i, d, a1, a2, a3, a4, a5⟩ := hown x hy
          exact ⟨i, d, a1, a2, a3, by rw [a5, decide_eq_false hne]⟩
      · cases hx2
  · -- c3
    show ((itR l d.t (atB d) i (k + 1 - 1 - i)).2 = true → (if d.t = e.t then wsNew k e f else (f d.t).map (upW k e)) = some (itR l d.t (atB d) i (k + 1 - 1 - i)).1) ∧ ((itR l d.t (atB d) i (k + 1 - 1 - i)).2 = false → (itR l d.t (atB d) i (k + 1 - 1 - i)).1 ∈ out ++ wsOut e f)
    by_cases q : i = k
    · subst q
      rw [he] at hd
      injection hd with hd
      subst hd
      rw [hself]
      have hs2 := (startB_iff he).1 hs
      refine ⟨fun _ => ?_, fun h => (by cases h)⟩
      rw [if_pos rfl]
      have hwe := hwe hs2.1
      unfold wsNew
      rw [if_neg (by omega)]
      split
      · rename_i y hy
        rw [if_neg (fun z => hs2.2 ((ha _ _ hy).2.1.symm.trans z.symm)), hwe]
      · rw [hwe]
    · have hi2 : i < k := by omega
      have h3 := hc3 i d hi2 hd hs
      have hkp := itR_keep l d.t (atB d) i (k - 1 - i)
      rw [hnext i d hi2]
      generalize hP : itR l d.t (atB d) i (k - 1 - i) = p at *
      obtain ⟨x, o⟩ := p
      simp only at h3 hkp
      cases o with
      | false =>
        refine ⟨fun h => (by cases h), fun _ => ?_⟩
        exact List.mem_append.2 (.inl (h3.2 rfl))
      | true =>
        have hf := h3.1 rfl
        unfold itS
        rw [if_neg (by simp)]
        by_cases q2 : e.t = d.t
        · rw [if_pos q2]
          rw [← q2] at hf
          simp only [decide_eq_true_eq, decide_eq_false_iff_not]
          rw [if_pos q2.symm]
          refine ⟨fun h => ?_, fun h => ?_⟩
          · have hx := ha _ _ hf
            unfold wsNew
            rw [if_neg (by rw [h, ← hkp.2.1]; omega), hf]
            simp only
            rw [if_pos (h.trans hkp.2.1.symm)]
          · refine List.mem_append.2 (.inr ?_)
            unfold wsOut
            rw [hf]
            simp only
            rw [if_neg (fun z => h (z.trans hkp.2.1))]
            simp
        · rw [if_neg q2]
          have hu : (if d.t = e.t then wsNew k e f else (f d.t).map (upW k e)) = some (if chB e (atB d) = true then ⟨x.t, x.w, x.f, k, e.t⟩ else x) := by
            rw [if_neg (fun z => q2 z.symm), hf]
            show some (upW k e x) = _
            unfold upW
            rw [hkp.2.1]
          rw [hu]
          split
          · exact ⟨fun _ => rfl, fun h => (by cases h)⟩
          · exact ⟨fun _ => rfl, fun h => (by cases h)⟩
  · -- nodup
    show (out ++ wsOut e f).Nodup
    unfold wsOut
    split
    · rename_i y hy
      split
      · simpa using hn
      · rw [List.nodup_append]
        refine ⟨hn, by simp, fun x hx z hz => ?_⟩
        obtain rfl := List.mem_singleton.1 hz
        rintro rfl
        obtain ⟨i, d, h1, h2, h3, h4⟩ := hc2 x hx
        obtain ⟨i', d', g1, g2, g3, g4, g5⟩ := hc1 _ _ hy
        have f1 := (itR_keep l d.t (atB d) i (k - 1 - i)).2.2
        have f2 := (itR_keep l d'.t (atB d') i' (k - 1 - i')).2.2
        rw [h4] at f1
        rw [g5] at f2
        simp only at f1 f2
        have : i = i' := by omega
        subst this
        rw [h2] at g2
        injection g2 with g2
        subst g2
        rw [h4] at g5
        cases g5
    · simpa using hn
theorem wi_all (l : List Dd) (hr : ∀ d ∈ l, rightB d = true) : ∀ k, k ≤ l.length → WI l k (wsRun l k)
  | 0, _ => wi_zero l
  | k + 1, hk => by
    obtain ⟨d, hd⟩ : ∃ d, l[k]? = some d := ⟨_, List.getElem?_eq_getElem (by omega)⟩
    exact wi_step l k hd (hr d (List.mem_iff_getElem?.2 ⟨k, hd⟩)) (wi_all l hr k (by omega))
/-- two rows with the same members, both in order, are one -/
theorem same_sorted {α : Type} (f : α → Int) : ∀ (a b : List α), a.Pairwise (fun x y => f x < f y) → b.Pairwise (fun x y => f x < f y) → (∀ x, x ∈ a ↔ x ∈ b) → a = b
  | [], [], _, _, _ => rfl
  | [], y :: b, _, _, h => by have := (h y).2 (by simp); cases this
  | x :: a, [], _, _, h => by have := (h x).1 (by simp); cases this
  | x :: a, y :: b, ha, hb, h => by
    obtain ⟨a1, a2⟩ := List.pairwise_cons.1 ha
    obtain ⟨b1, b2⟩ := List.pairwise_cons.1 hb
    have hxy : x = y := by
      rcases List.mem_cons.1 ((h x).1 (by simp)) with e | e
      · exact e
      · rcases List.mem_cons.1 ((h y).2 (by simp)) with e2 | e2
        · exact e2.symm
        · have := a1 _ e2
          have := b1 _ e
          omega
    subst hxy
    rw [same_sorted f a b a2 b2 (fun z => ?_)]
    constructor
    · intro hz
      rcases List.mem_cons.1 ((h z).1 (by simp [hz])) with e | e
      · subst e
        have := a1 _ hz
        omega
      · exact e
    · intro hz
      rcases List.mem_cons.1 ((h z).2 (by simp [hz])) with e | e
      · subst e
        have := b1 _ hz
        omega
      · exact e
/-- what is out and what is open at the end, in order, is what there is by definition -/
theorem waits_all (l : List Dd) (hr : ∀ d ∈ l, rightB d = true) (out : List Wt) (hm : ∀ x, x ∈ out ↔ x ∈ (wsRun l l.length).1 ∨ ∃ t, (wsRun l l.length).2 t = some x) (hn : out.Nodup) (r : List Wt) (hp : r.Perm out) (hs : r.Pairwise (fun x y => x.f ≤ y.f)) : r = refW l l.length := by
  have hI := wi_all l hr l.length (Nat.le_refl _)
  have hmem : ∀ x, x ∈ r ↔ x ∈ refW l l.length := fun x => by
    rw [hp.mem_iff, hm, mem_refW]
    constructor
    · rintro (h | ⟨t, h⟩)
      · obtain ⟨i, d, h1, h2, h3, h4⟩ := hI.c2 x h
        exact ⟨i, d, h1, h2, h3, by rw [h4]⟩
      · obtain ⟨i, d, h1, h2, h3, _, h4⟩ := hI.c1 t x h
        exact ⟨i, d, h1, h2, h3, by rw [h4]⟩
    · rintro ⟨i, d, h1, h2, h3, rfl⟩
      have h4 := hI.c3 i d h1 h2 h3
      cases ho : (itR l d.t (atB d) i (l.length - 1 - i)).2 with
      | true => exact .inr ⟨_, h4.1 ho⟩
      | false => exact .inl (h4.2 ho)
  have hrn : r.Nodup := hp.nodup_iff.2 hn
  refine same_sorted Wt.f _ _ ?_ (refW_sorted l _) hmem
  have hinj : ∀ x ∈ r, ∀ y ∈ r, x.f = y.f → x = y := fun x hx y hy e => by
    obtain ⟨i, d, h1, h2, h3, rfl⟩ := (mem_refW l x _).1 ((hmem x).1 hx)
    obtain ⟨j, d', g1, g2, g3, rfl⟩ := (mem_refW l y _).1 ((hmem y).1 hy)
    rw [(itR_keep l _ _ _ _).2.2, (itR_keep l _ _ _ _).2.2] at e
    have : i = j := by omega
    subst this
    rw [h2] at g2
    injection g2 with g2
    rw [g2]
  have h2 : r.Pairwise (fun x y => x.f ≤ y.f ∧ x ≠ y) := hs.and hrn
  refine h2.imp_of_mem (fun {x y} hx hy h => ?_)
  have h3 : x.f ≠ y.f := fun e => h.2 (hinj x hx y hy e)
  exact Int.lt_iff_le_and_ne.2 ⟨h.1, h3⟩
end Go.Proofs.Ytpndlggahdefcaa
