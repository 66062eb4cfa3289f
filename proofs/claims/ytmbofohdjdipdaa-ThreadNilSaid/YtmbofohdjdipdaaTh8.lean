/-
  Programs behind an interface, whichever they are: codes, chains of codes.
-/
import Derived.Test.YtmbofohdjdipdaaTh7
import Derived.Test.YtmbofohdjdipdaaThG
namespace Go.Proofs.Ytmbofohdjdipdaa
open Go.RowKit

structure Pif where
  T : TypeId
  p : Value
  fs : FuncId
  fd : FuncId
  fr : FuncId
  fc : FuncId
abbrev Pif.v (d : Pif) : Value := .iface d.T d.p
structure Pif.Ok (d : Pif) : Prop where
  ns : ∀ w, (nilAhead 285 d.T d.p "Step").run Try.prog w = .ok (some false) w
  ms : ∀ w, (method 285 d.T d.p "Step").run Try.prog w = .ok (d.fs, d.p) w
  ks : ∀ args w, (callFunc d.fs args).run Try.prog w = .ok (.enter d.fs args) w
  nd : ∀ w, (nilAhead 285 d.T d.p "Done").run Try.prog w = .ok (some false) w
  md : ∀ w, (method 285 d.T d.p "Done").run Try.prog w = .ok (d.fd, d.p) w
  kd : ∀ args w, (callFunc d.fd args).run Try.prog w = .ok (.enter d.fd args) w
  nr : ∀ w, (nilAhead 285 d.T d.p "Result").run Try.prog w = .ok (some false) w
  mr : ∀ w, (method 285 d.T d.p "Result").run Try.prog w = .ok (d.fr, d.p) w
  kr : ∀ args w, (callFunc d.fr args).run Try.prog w = .ok (.enter d.fr args) w
  nc : ∀ w, (nilAhead 285 d.T d.p "Copy").run Try.prog w = .ok (some false) w
  mc : ∀ w, (method 285 d.T d.p "Copy").run Try.prog w = .ok (d.fc, d.p) w
  kc : ∀ args w, (callFunc d.fc args).run Try.prog w = .ok (.enter d.fc args) w
def codeD (r : Nat) : Pif := ⟨72, .pointer (some ⟨r, 0, none⟩), 31, 32, 33, 34⟩
theorem codeD_ok (r : Nat) : (codeD r).Ok where
  ns := fun w => by show (nilAhead 285 72 (.pointer (some ⟨r, 0, none⟩)) "Step").run Try.prog w = _; kernel_rfl
  ms := fun w => by show (method 285 72 (.pointer (some ⟨r, 0, none⟩)) "Step").run Try.prog w = .ok (31, .pointer (some ⟨r, 0, none⟩)) w; kernel_rfl
  ks := fun args w => by show (callFunc 31 args).run Try.prog w = .ok (.enter 31 args) w; kernel_rfl
  nd := fun w => by show (nilAhead 285 72 (.pointer (some ⟨r, 0, none⟩)) "Done").run Try.prog w = _; kernel_rfl
  md := fun w => by show (method 285 72 (.pointer (some ⟨r, 0, none⟩)) "Done").run Try.prog w = .ok (32, .pointer (some ⟨r, 0, none⟩)) w; kernel_rfl
  kd := fun args w => by show (callFunc 32 args).run Try.prog w = .ok (.enter 32 args) w; kernel_rfl
  nr := fun w => by show (nilAhead 285 72 (.pointer (some ⟨r, 0, none⟩)) "Result").run Try.prog w = _; kernel_rfl
  mr := fun w => by show (method 285 72 (.pointer (some ⟨r, 0, none⟩)) "Result").run Try.prog w = .ok (33, .pointer (some ⟨r, 0, none⟩)) w; kernel_rfl
  kr := fun args w => by show (callFunc 33 args).run Try.prog w = .ok (.enter 33 args) w; kernel_rfl
  nc := fun w => by show (nilAhead 285 72 (.pointer (some ⟨r, 0, none⟩)) "Copy").run Try.prog w = _; kernel_rfl
  mc := fun w => by show (method 285 72 (.pointer (some ⟨r, 0, none⟩)) "Copy").run Try.prog w = .ok (34, .pointer (some ⟨r, 0, none⟩)) w; kernel_rfl
  kc := fun args w => by show (callFunc 34 args).run Try.prog w = .ok (.enter 34 args) w; kernel_rfl
def chainD (r : Nat) : Pif := ⟨145, .pointer (some ⟨r, 0, none⟩), 115, 113, 114, 112⟩
theorem chainD_ok (r : Nat) : (chainD r).Ok where
  ns := fun w => by show (nilAhead 285 145 (.pointer (some ⟨r, 0, none⟩)) "Step").run Try.prog w = _; kernel_rfl
  ms := fun w => by show (method 285 145 (.pointer (some ⟨r, 0, none⟩)) "Step").run Try.prog w = .ok (115, .pointer (some ⟨r, 0, none⟩)) w; kernel_rfl
  ks := fun args w => by show (callFunc 115 args).run Try.prog w = .ok (.enter 115 args) w; kernel_rfl
  nd := fun w => by show (nilAhead 285 145 (.pointer (some ⟨r, 0, none⟩)) "Done").run Try.prog w = _; kernel_rfl
  md := fun w => by show (method 285 145 (.pointer (some ⟨r, 0, none⟩)) "Done").run Try.prog w = .ok (113, .pointer (some ⟨r, 0, none⟩)) w; kernel_rfl
  kd := fun args w => by show (callFunc 113 args).run Try.prog w = .ok (.enter 113 args) w; kernel_rfl
  nr := fun w => by show (nilAhead 285 145 (.pointer (some ⟨r, 0, none⟩)) "Result").run Try.prog w = _; kernel_rfl
  mr := fun w => by show (method 285 145 (.pointer (some ⟨r, 0, none⟩)) "Result").run Try.prog w = .ok (114, .pointer (some ⟨r, 0, none⟩)) w; kernel_rfl
  kr := fun args w => by show (callFunc 114 args).run Try.prog w = .ok (.enter 114 args) w; kernel_rfl
  nc := fun w => by show (nilAhead 285 145 (.pointer (some ⟨r, 0, none⟩)) "Copy").run Try.prog w = _; kernel_rfl
  mc := fun w => by show (method 285 145 (.pointer (some ⟨r, 0, none⟩)) "Copy").run Try.prog w = .ok (112, .pointer (some ⟨r, 0, none⟩)) w; kernel_rfl
  kc := fun args w => by show (callFunc 112 args).run Try.prog w = .ok (.enter 112 args) w; kernel_rfl
def greedyD (r : Nat) : Pif := ⟨109, .pointer (some ⟨r, 0, none⟩), 104, 102, 103, 101⟩
theorem greedyD_ok (r : Nat) : (greedyD r).Ok where
  ns := fun w => by show (nilAhead 285 109 (.pointer (some ⟨r, 0, none⟩)) "Step").run Try.prog w = _; kernel_rfl
  ms := fun w => by show (method 285 109 (.pointer (some ⟨r, 0, none⟩)) "Step").run Try.prog w = .ok (104, .pointer (some ⟨r, 0, none⟩)) w; kernel_rfl
  ks := fun args w => by show (callFunc 104 args).run Try.prog w = .ok (.enter 104 args) w; kernel_rfl
  nd := fun w => by show (nilAhead 285 109 (.pointer (some ⟨r, 0, none⟩)) "Done").run Try.prog w = _; kernel_rfl
  md := fun w => by show (method 285 109 (.pointer (some ⟨r, 0, none⟩)) "Done").run Try.prog w = .ok (102, .pointer (some ⟨r, 0, none⟩)) w; kernel_rfl
  kd := fun args w => by show (callFunc 102 args).run Try.prog w = .ok (.enter 102 args) w; kernel_rfl
  nr := fun w => by show (nilAhead 285 109 (.pointer (some ⟨r, 0, none⟩)) "Result").run Try.prog w = _; kernel_rfl
  mr := fun w => by show (method 285 109 (.pointer (some ⟨r, 0, none⟩)) "Result").run Try.prog w = .ok (103, .pointer (some ⟨r, 0, none⟩)) w; kernel_rfl
  kr := fun args w => by show (callFunc 103 args).run Try.prog w = .ok (.enter 103 args) w; kernel_rfl
  nc := fun w => by show (nilAhead 285 109 (.pointer (some ⟨r, 0, none⟩)) "Copy").run Try.prog w = _; kernel_rfl
  mc := fun w => by show (method 285 109 (.pointer (some ⟨r, 0, none⟩)) "Copy").run Try.prog w = .ok (101, .pointer (some ⟨r, 0, none⟩)) w; kernel_rfl
  kc := fun args w => by show (callFunc 101 args).run Try.prog w = .ok (.enter 101 args) w; kernel_rfl

/-- a program: a code, or codes one after the other -/
inductive Pg where
  | code (c : Cd)
  | chain (l : List Cd)
  | greedy (x : Gr) (nb : Nat)
def nextL : List Cd → List Cd
  | c :: d :: t => if c.ended then nextL (d :: t) else c :: d :: t
  | [c] => [c]
  | [] => []
def doneL : List Cd → Bool
  | [c] => c.ended
  | _ => false
def headL : List Cd → Cd
  | c :: _ => c
  | [] => newCd []
theorem nextQ_map : ∀ qs : List CdR, (nextQ qs).map (·.c) = nextL (qs.map (·.c))
  | [] => rfl
  | [_] => rfl
  | q :: p :: t => by
    have ih := nextQ_map (p :: t)
    show (nextQ (q :: p :: t)).map (·.c) = if q.c.ended then nextL (p.c :: t.map (·.c)) else q.c :: p.c :: t.map (·.c)
    rw [nextQ_two]
    split
    · exact ih
    · rfl
theorem doneQ_map : ∀ qs : List CdR, doneQ qs = doneL (qs.map (·.c))
  | [] => rfl
  | [_] => rfl
  | _ :: _ :: _ => rfl
theorem headQ_map : ∀ qs : List CdR, headQ qs = headL (qs.map (·.c))
  | [] => rfl
  | _ :: _ => rfl
theorem nextQ_sub : ∀ (qs : List CdR) (q : CdR), q ∈ nextQ qs → q ∈ qs
  | [], q, h => h
  | [_], q, h => h
  | a :: b :: t, q, h => by
    rw [nextQ_two] at h
    split at h
    · exact List.mem_cons_of_mem _ (nextQ_sub (b :: t) q h)
    · exact h
theorem nextQ_len : ∀ (qs : List CdR), (nextQ qs).length ≤ qs.length
  | [] => Nat.le_refl _
  | [_] => Nat.le_refl _
  | a :: b :: t => by
    rw [nextQ_two]
    split
    · exact Nat.le_trans (nextQ_len (b :: t)) (by simp)
    · exact Nat.le_refl _
theorem nextQ_idem : ∀ qs : List CdR, nextQ (nextQ qs) = nextQ qs
  | [] => rfl
  | [_] => rfl
  | a :: b :: t => by
    rw [nextQ_two]
    by_cases h : a.c.ended = true
    · rw [if_pos h]
      exact nextQ_idem (b :: t)
    · rw [if_neg h, nextQ_two, if_neg h]
theorem nextQ_eq_of_len : ∀ qs : List CdR, (nextQ qs).length = qs.length → nextQ qs = qs
  | [], _ => rfl
  | [_], _ => rfl
  | a :: b :: t, h => by
    rw [nextQ_two] at h ⊢
    split at h
    · have h4 := nextQ_len (b :: t)
      simp only [List.length_cons] at h h4
      omega
    · rename_i hx
      rw [if_neg hx]
theorem nextQ_ne : ∀ qs : List CdR, nextQ qs = qs → doneQ qs = false → ∀ q t, qs = q :: t → q.c.ended = false
  | [], _, _, q, t, h => by cases h
  | [a], _, hd, q, t, h => by
    injection h with h1 h2
    subst h1
    exact hd
  | a :: b :: s, hn, _, q, t, h => by
    injection h with h1 h2
    subst h1
    rw [nextQ_two] at hn
    split at hn
    · have h3 := congrArg List.length hn
      have h4 := nextQ_len (b :: s)
      simp only [List.length_cons] at h3 h4
      omega
    · rename_i hx
      simpa using hx
def Pg.done : Pg → Bool
  | .code c => c.ended
  | .chain l => doneL l
  | .greedy x _ => x.ended
def Pg.res : Pg → Int
  | .code c => c.res
  | .chain l => if doneL l then (headL l).res else 0
  | .greedy _ _ => 5
/-- what a copy shares with what it was made of -/
def Pg.shares : Pg → List Nat
  | .code _ => []
  | .chain _ => []
  | .greedy _ nb => [nb]
structure Res (σ : Type) where
  x : Pg
  s : σ
  wt : Bool
  e : Int
def cRes {σ : Type} (m : Mif σ) (s : σ) (c : Cd) (f : Cd → Pg) : Res σ := ⟨f (stC c (m.e s c.cur) (m.b s c.cur)), m.n s c c.cur, doWt c.cur (m.e s c.cur) (m.b s c.cur), doEr c.cur (m.e s c.cur)⟩
def Pg.step {σ : Type} (m : Mif σ) (s : σ) : Pg → Res σ
  | .code c => if c.ended then ⟨.code c, s, false, 17⟩ else cRes m s c .code
  | .chain [] => ⟨.chain [], s, false, 17⟩
  | .chain (c :: t) => if doneL (c :: t) then ⟨.chain (c :: t), s, false, 17⟩ else cRes m s c (fun d => .chain (nextL (d :: t)))
  | .greedy x nb => ⟨.greedy (grN m s x) nb, grS m s x, false, m.E s x.f.k x.f.i⟩
/-- the types of the blocks in which a program lies, that it may change -/
def progTy (t : TypeId) : Prop := t = 85 ∨ t = 147
  ∨ t = 112 ∨ t = 29
/-- a program stands behind an interface; fs: the blocks that it may change -/
def ProgAt (w : World) (d : Pif) (fs : List Nat) : Pg → Prop
  | .code c => ∃ r i cap, d = codeD r ∧ fs = [r] ∧ CdAt w r i cap c
  | .chain l => ∃ r lb off cap qs, d = chainD r ∧ fs = r :: qs.map (·.r) ∧ ChAt w r lb off cap qs ∧ qs.map (·.c) = l ∧ nextQ qs = qs ∧ qs.length ≤ 1000
  | .greedy x nb => ∃ r, d = greedyD r ∧ fs = [r, nb] ∧ GrAt w r nb x
section
variable {w w' : World} {d : Pif} {fs : List Nat} {x : Pg}
theorem ProgAt.ok (h : ProgAt w d fs x) : d.Ok := by
  cases x with
  | code c =>
    obtain ⟨r, i, cap, rfl, _⟩ := h
    exact codeD_ok r
  | chain l =>
    obtain ⟨r, lb, off, cap, qs, rfl, _⟩ := h
    exact chainD_ok r
  | greedy x nb =>
    obtain ⟨r, rfl, _⟩ := h
    exact greedyD_ok r
theorem ProgAt.ty (h : ProgAt w d fs x) : ∀ k ∈ fs, ∃ t cs, Blk w k t cs ∧ progTy t := by
  cases x with
  | code c =>
    obtain ⟨r, i, cap, rfl, rfl, hc⟩ := h
    intro k hk
    rw [List.mem_singleton] at hk
    subst hk
    exact ⟨_, _, hc.b, .inl rfl⟩
  | chain l =>
    obtain ⟨r, lb, off, cap, qs, rfl, rfl, hc, _⟩ := h
    intro k hk
    rcases List.mem_cons.1 hk with rfl | hk
    · exact ⟨_, _, hc.b, by unfold progTy; simp⟩
    · obtain ⟨q, hq, rfl⟩ := List.mem_map.1 hk
      exact ⟨_, _, (hc.cd q hq).b, .inl rfl⟩
  | greedy x nb =>
    obtain ⟨r, rfl, rfl, hg⟩ := h
    intro k hk
    simp only [List.mem_cons, List.not_mem_nil, or_false] at hk
    rcases hk with rfl | rfl
    · exact ⟨_, _, hg.b, .inr (.inr (.inl rfl))⟩
    · exact ⟨_, _, hg.n, .inr (.inr (.inr rfl))⟩
theorem ProgAt.lt (h : ProgAt w d fs x) : ∀ k ∈ fs, k < w.heap.size := fun k hk => by
  obtain ⟨_, _, hb, _⟩ := h.ty k hk
  exact hb.lt
theorem ProgAt.mut (h : ProgAt w d fs x) : Mut w (fun k => k ∈ fs) := fun k hk _ => by
  obtain ⟨t, cs, hb, ht⟩ := h.ty k hk
  refine ⟨t, cs, hb, ?_⟩
  unfold progTy at ht
  unfold fixTy
  rcases ht with rfl | rfl | rfl | rfl <;> decide
theorem ProgAt.keep {F : Nat → Prop} (h : ProgAt w d fs x) (hc : Ch F w w') (hF : Mut w F) (hf : ∀ k ∈ fs, ¬ F k) : ProgAt w' d fs x := by
  cases x with
  | code c =>
    obtain ⟨r, i, cap, rfl, rfl, h1⟩ := h
    exact ⟨r, i, cap, rfl, rfl, h1.keepM hc hF (hf r (by simp))⟩
  | chain l =>
    obtain ⟨r, lb, off, cap, qs, rfl, rfl, h1, h2, h3, h4⟩ := h
    exact ⟨r, lb, off, cap, qs, rfl, rfl, h1.keep hc hF (hf r (by simp)) (fun q hq => hf _ (List.mem_cons_of_mem _ (List.mem_map_of_mem hq))), h2, h3, h4⟩
  | greedy x nb =>
    obtain ⟨r, rfl, rfl, h1⟩ := h
    exact ⟨r, rfl, rfl, h1.keep hc (hf r (by simp)) (hf nb (by simp))⟩
theorem ProgAt.below (h : ProgAt w d fs x) (hb : Below w.heap.size w w') : ProgAt w' d fs x := h.keep (Ch.of_below hb (fun _ => False)) (Mut.no w) (fun _ _ e => e)
/-- a program's blocks are none of the memory's -/
theorem ProgAt.no {σ : Type} {m : Mif σ} {s : σ} (h : ProgAt w d fs x) (hm : m.Ok) (ha : m.At w s) : ∀ k ∈ fs, ¬ m.own k := fun k hk => by
  obtain ⟨t, cs, hb, ht⟩ := h.ty k hk
  refine hm.not_own ha hb ?_
  unfold progTy at ht
  unfold memTy
  rcases ht with rfl | rfl | rfl | rfl <;> decide
theorem p_done (h : ProgAt w d fs x) : Calls Try.prog d.fd #[d.p] w fun e w' => e = .returned (.bool x.done) ∧ w = w' := by
  cases x with
  | code c =>
    obtain ⟨r, i, cap, rfl, _, h1⟩ := h
    exact cdone_any r i cap c w h1
  | chain l =>
    obtain ⟨r, lb, off, cap, qs, rfl, _, h1, rfl, _⟩ := h
    have := chdone_any r lb off cap qs w h1
    rw [doneQ_map] at this
    exact this
  | greedy x nb =>
    obtain ⟨r, rfl, _, h1⟩ := h
    exact gdone_any r nb x w h1
theorem p_result (h : ProgAt w d fs x) : Calls Try.prog d.fr #[d.p] w fun e w' => e = .returned (.int .u64 x.res) ∧ w = w' := by
  cases x with
  | code c =>
    obtain ⟨r, i, cap, rfl, _, h1⟩ := h
    exact cresult_any r i cap c w h1
  | chain l =>
    obtain ⟨r, lb, off, cap, qs, rfl, _, h1, rfl, _⟩ := h
    have := chresult_any r lb off cap qs w h1
    rw [doneQ_map, headQ_map] at this
    exact this
  | greedy x nb =>
    obtain ⟨r, rfl, _, h1⟩ := h
    exact gresult_any r w
def PStepP {σ : Type} (m : Mif σ) (w : World) (d : Pif) (fs : List Nat) (z : Res σ) (e : Ending) (w' : World) : Prop :=
  e = .returned (.tuple #[.bool z.wt, .int .i64 z.e]) ∧ (∃ fs', (∀ k ∈ fs', k ∈ fs) ∧ ProgAt w' d fs' z.x) ∧ m.At w' z.s ∧ Ch (fun k => k ∈ fs ∨ m.own k) w w'
theorem p_step {σ : Type} (m : Mif σ) (hm : m.Ok) (s : σ) (h : ProgAt w d fs x) (ha : m.At w s) : Calls Try.prog d.fs #[d.p, m.v] w (PStepP m w d fs (x.step m s)) := by
  cases x with
  | code c =>
    obtain ⟨r, i, cap, rfl, rfl, h1⟩ := h
    unfold Pg.step
    dsimp only
    by_cases he : c.ended = true
    · rw [if_pos he]
      exact (cstep_end r i cap c w h1 m he).mono fun e w' ⟨h2, h3⟩ => ⟨h2, ⟨[r], fun _ e => e, r, i, cap, rfl, rfl, h3 ▸ h1⟩, h3 ▸ ha, h3 ▸ Ch.refl _ _⟩
    · rw [if_neg he]
      exact (cstep_run m hm r i cap c w s h1 ha (by simpa using he)).mono fun e w' ⟨h2, h3, h4, h5⟩ => ⟨h2, ⟨[r], fun _ e => e, r, i, cap, rfl, rfl, h3⟩, h4, h5.mono (fun k _ e => e.imp (fun e => by simp [e]) id)⟩
  | chain l =>
    obtain ⟨r, lb, off, cap, qs, rfl, rfl, h1, rfl, h3, h4⟩ := h
    have hlo := h1.lo
    match qs, h1, h3, h4, hlo with
    | q :: t, h1, h3, h4, _ =>
      show Calls Try.prog _ _ w (PStepP m w (chainD r) (r :: (q :: t).map (·.r)) (Pg.step m s (.chain (q.c :: t.map (·.c)))))
      unfold Pg.step
      dsimp only
      have hdm : doneL (q.c :: t.map (·.c)) = doneQ (q :: t) := (doneQ_map (q :: t)).symm
      rw [hdm]
      by_cases he : doneQ (q :: t) = true
      · rw [if_pos he]
        exact (chstep_end m r lb off cap (q :: t) w h1 he).mono fun e w' ⟨g2, g3⟩ => ⟨g2, ⟨_, fun _ e => e, r, lb, off, cap, q :: t, rfl, rfl, g3 ▸ h1, rfl, h3, h4⟩, g3 ▸ ha, g3 ▸ Ch.refl _ _⟩
      · rw [if_neg he]
        have hq := nextQ_ne (q :: t) h3 (by simpa using he) q t rfl
        refine (chstep_run m hm r lb off cap q t w s h1 ha hq).mono fun e w' ⟨g2, ⟨off', cap', g3⟩, g4, g5⟩ => ⟨g2, ⟨_, fun k hk => ?_, r, lb, off', cap', _, rfl, rfl, g3, ?_, nextQ_idem _, ?_⟩, g4, g5.mono (fun k _ e => ?_)⟩
        · rcases List.mem_cons.1 hk with rfl | hk
          · simp
          · obtain ⟨p, hp, rfl⟩ := List.mem_map.1 hk
            rcases List.mem_cons.1 (nextQ_sub _ _ hp) with rfl | hp
            · simp
            · exact List.mem_cons_of_mem _ (List.mem_cons_of_mem _ (List.mem_map_of_mem hp))
        · rw [nextQ_map]
          rfl
        · exact Nat.le_trans (nextQ_len _) h4
        · rcases e with rfl | rfl | e
          · exact .inl (by simp)
          · exact .inl (by simp)
          · exact .inr e
  | greedy x nb =>
    obtain ⟨r, rfl, rfl, h1⟩ := h
    exact (gstep_any m hm r nb x w s h1 ha).mono fun e w' ⟨h2, h3, h4, h5⟩ => ⟨h2, ⟨[r, nb], fun _ e => e, r, rfl, rfl, h3⟩, h4, h5.mono (fun k _ e => by rcases e with rfl | rfl | e; exact .inl (by simp); exact .inl (by simp); exact .inr e)⟩
def PCopyP (w : World) (x : Pg) (e : Ending) (w' : World) : Prop :=
  Below w.heap.size w w' ∧ ∃ d fs, e = .returned d.v ∧ ProgAt w' d fs x ∧ ∀ k ∈ fs, w.heap.size ≤ k ∨ k ∈ x.shares
theorem p_copy (h : ProgAt w d fs x) : Calls Try.prog d.fc #[d.p] w (PCopyP w x) := by
  cases x with
  | code c =>
    obtain ⟨r, i, cap, rfl, _, h1⟩ := h
    exact (ccopy_any r i cap c w h1).mono fun e w' ⟨h2, h3, h4⟩ => ⟨h4, codeD w.heap.size, [w.heap.size], h2, ⟨_, i, cap, rfl, rfl, h3⟩, fun k hk => by rw [List.mem_singleton] at hk; subst hk; exact .inl (Nat.le_refl _)⟩
  | chain l =>
    obtain ⟨r, lb, off, cap, qs, rfl, _, h1, rfl, h3, h5⟩ := h
    refine (chcopy_any r lb off cap qs w h1 h5).mono fun e w' ⟨h2, r', lb', cap', ps, g1, g2, g3, g4, g6⟩ => ⟨h2, chainD r', _, g1, ⟨r', lb', 0, cap', ps, rfl, rfl, g2, g3, ?_, ?_⟩, fun k hk => ?_⟩
    · have e1 := nextQ_map ps
      rw [g3, ← nextQ_map, h3, ← g3] at e1
      have e2 : (nextQ ps).length = ps.length := by
        have := congrArg List.length e1
        simpa using this
      exact nextQ_eq_of_len ps e2
    · have := congrArg List.length g3
      simp only [List.length_map] at this
      omega
    · rcases List.mem_cons.1 hk with rfl | hk
      · exact .inl g4
      · obtain ⟨p, hp, rfl⟩ := List.mem_map.1 hk
        exact .inl (g6 p hp)
  | greedy x nb =>
    obtain ⟨r, rfl, _, h1⟩ := h
    exact (gcopy_any r nb x w h1).mono fun e w' ⟨h2, h3, h4⟩ => ⟨h4, greedyD w.heap.size, [w.heap.size, nb], h2, ⟨_, rfl, rfl, h3⟩, fun k hk => by
      simp only [List.mem_cons, List.not_mem_nil, or_false] at hk
      rcases hk with rfl | rfl
      · exact .inl (Nat.le_refl _)
      · exact .inr (by simp [Pg.shares])⟩
theorem copied_prog (h : ProgAt w d fs x) : Calls Try.prog 65 #[d.v] w (PCopyP w x) := by
  have hd := h.ok
  have z1 := hd.nc
  have z2 := hd.mc
  have z3 := hd.kc
  have hc := p_copy h
  go_enter Try.func65, Try.ntmps65
  go_wp2_with ((with_reducible refine hc.mono ?_); rintro e w1 ⟨hb, d', fs', rfl, hp, hk⟩)
  go_ret
  exact ⟨hb, d', fs', rfl, hp, hk⟩
theorem copied_nil (w : World) : Calls Try.prog 65 #[.nilIface] w fun e w' => e = .returned .nilIface ∧ w = w' := by
  go_enter Try.func65, Try.ntmps65
  go_wp2
  go_ret
  exact ⟨rfl, rfl⟩
end
end Go.Proofs.Ytmbofohdjdipdaa
