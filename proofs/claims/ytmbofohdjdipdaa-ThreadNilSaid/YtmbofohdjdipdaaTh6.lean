/-
  Contracts of package thread: chains of codes.
-/
import Derived.Test.YtmbofohdjdipdaaTh5
namespace Go.Proofs.Ytmbofohdjdipdaa
open Go.RowKit

/-! ### a code as a program -/
theorem nil_Step_Code (r : Nat) (w : World) : (nilAhead 285 72 (.pointer (some ⟨r, 0, none⟩)) "Step").run Try.prog w = .ok (some false) w := by kernel_rfl
theorem method_Step_Code (r : Nat) (w : World) : (method 285 72 (.pointer (some ⟨r, 0, none⟩)) "Step").run Try.prog w = .ok (31, .pointer (some ⟨r, 0, none⟩)) w := by kernel_rfl
theorem nil_Done_Code (r : Nat) (w : World) : (nilAhead 285 72 (.pointer (some ⟨r, 0, none⟩)) "Done").run Try.prog w = .ok (some false) w := by kernel_rfl
theorem method_Done_Code (r : Nat) (w : World) : (method 285 72 (.pointer (some ⟨r, 0, none⟩)) "Done").run Try.prog w = .ok (32, .pointer (some ⟨r, 0, none⟩)) w := by kernel_rfl
theorem nil_Result_Code (r : Nat) (w : World) : (nilAhead 285 72 (.pointer (some ⟨r, 0, none⟩)) "Result").run Try.prog w = .ok (some false) w := by kernel_rfl
theorem method_Result_Code (r : Nat) (w : World) : (method 285 72 (.pointer (some ⟨r, 0, none⟩)) "Result").run Try.prog w = .ok (33, .pointer (some ⟨r, 0, none⟩)) w := by kernel_rfl
theorem nil_Copy_Code (r : Nat) (w : World) : (nilAhead 285 72 (.pointer (some ⟨r, 0, none⟩)) "Copy").run Try.prog w = .ok (some false) w := by kernel_rfl
theorem method_Copy_Code (r : Nat) (w : World) : (method 285 72 (.pointer (some ⟨r, 0, none⟩)) "Copy").run Try.prog w = .ok (34, .pointer (some ⟨r, 0, none⟩)) w := by kernel_rfl
abbrev codeI (r : Nat) : Value := .iface 72 (.pointer (some ⟨r, 0, none⟩))

/-- blocks that are never stored into once they are laid: instructions, and lists of programs -/
def fixTy (t : TypeId) : Prop := t = 70 ∨ t = 62
/-- what may change is of other types -/
def Mut (w : World) (F : Nat → Prop) : Prop := ∀ k, F k → k < w.heap.size → ∃ t cs, Blk w k t cs ∧ ¬ fixTy t
theorem Mut.not {w : World} {F : Nat → Prop} (h : Mut w F) {k : Nat} {t : TypeId} {cs : List Value} (hb : Blk w k t cs) (ht : fixTy t) : ¬ F k := fun hk => by
  obtain ⟨t', cs', hb', ht'⟩ := h k hk hb.lt
  exact Blk.ne hb hb' (fun e => ht' (e ▸ ht)) rfl
theorem Mut.or {w : World} {F G : Nat → Prop} (h : Mut w F) (h2 : Mut w G) : Mut w (fun k => F k ∨ G k) := fun k hk hl => hk.elim (fun e => h k e hl) (fun e => h2 k e hl)
theorem Mut.one {w : World} {r : Nat} {t : TypeId} {cs : List Value} (hb : Blk w r t cs) (ht : ¬ fixTy t) : Mut w (fun k => k = r) := fun k hk _ => by
  subst hk
  exact ⟨t, cs, hb, ht⟩
theorem Mif.Ok.mut {σ : Type} {m : Mif σ} (h : m.Ok) {w : World} {s : σ} (ha : m.At w s) : Mut w m.own := fun k hk _ => by
  obtain ⟨t, cs, hb, ht⟩ := h.ty _ _ _ ha hk
  refine ⟨t, cs, hb, ?_⟩
  unfold memTy at ht
  unfold fixTy
  rcases ht with rfl | rfl | rfl | rfl <;> decide
theorem CdAt.keepM {w w' : World} {r i cap : Nat} {c : Cd} {F : Nat → Prop} (h : CdAt w r i cap c) (hc : Ch F w w') (hF : Mut w F) (hr : ¬ F r) : CdAt w' r i cap c := by
  obtain ⟨sp, hs⟩ := h.il
  exact h.keep hc hr (hF.not hs (.inl rfl))

/-! ### chains -/
/-- a code, and where it lies -/
structure CdR where
  r : Nat
  i : Nat
  cap : Nat
  c : Cd
structure ChAt (w : World) (r lb off cap : Nat) (qs : List CdR) : Prop where
  b : Blk w r 147 [.slice (some ⟨lb, off, none⟩) qs.length cap]
  ll : ∃ pre sp, Blk w lb 62 (pre ++ (qs.map (fun q => codeI q.r) ++ sp)) ∧ pre.length = off
  lo : 1 ≤ qs.length
  capl : qs.length ≤ cap
  capm : cap ≤ 9223372036854775807
  cd : ∀ q ∈ qs, CdAt w q.r q.i q.cap q.c
  nd : (qs.map (·.r)).Nodup
section
variable {w w' : World} {r lb off cap : Nat} {qs : List CdR}
theorem ChAt.ne (h : ChAt w r lb off cap qs) : ∀ q ∈ qs, q.r ≠ r := fun q hq => Blk.ne (h.cd q hq).b h.b (by decide)
theorem ChAt.keep {F : Nat → Prop} (h : ChAt w r lb off cap qs) (hc : Ch F w w') (hF : Mut w F) (hr : ¬ F r) (hq : ∀ q ∈ qs, ¬ F q.r) : ChAt w' r lb off cap qs := by
  obtain ⟨pre, sp, hs, hp⟩ := h.ll
  exact ⟨h.b.keep hc hr, ⟨pre, sp, hs.keep hc (hF.not hs (.inr rfl)), hp⟩, h.lo, h.capl, h.capm, fun q hm => (h.cd q hm).keepM hc hF (hq q hm), h.nd⟩
theorem Mut.no (w : World) : Mut w (fun _ => False) := fun _ h _ => h.elim
theorem ChAt.below (h : ChAt w r lb off cap qs) (hb : Below w.heap.size w w') : ChAt w' r lb off cap qs := h.keep (Ch.of_below hb (fun _ => False)) (Mut.no w) (fun e => e) (fun _ _ e => e)
theorem ChAt.head {q : CdR} {t : List CdR} (h : ChAt w r lb off cap (q :: t)) : w.cell? ⟨lb, off, none⟩ = some (codeI q.r) := by
  obtain ⟨pre, sp, hs, rfl⟩ := h.ll
  rw [hs.cell, List.getElem?_append_right (Nat.le_refl _)]
  simp
theorem ChAt.c0 (h : ChAt w r lb off cap qs) : w.cell? ⟨r, 0, none⟩ = some (.slice (some ⟨lb, off, none⟩) qs.length cap) := h.b.cell 0
/-- the chain behind its first code -/
theorem ChAt.tail {q p : CdR} {t : List CdR} (h : ChAt w r lb off cap (q :: p :: t)) : ChAt (w.setCell ⟨r, 0, none⟩ (.slice (some ⟨lb, off + 1, none⟩) (p :: t).length (cap - 1))) r lb (off + 1) (cap - 1) (p :: t) := by
  have hC := (Ch.refl (fun k => k = r) w).setCell (p := ⟨r, 0, none⟩) (.inl rfl) (.slice (some ⟨lb, off + 1, none⟩) (p :: t).length (cap - 1))
  have hM : Mut w (fun k => k = r) := Mut.one h.b (by unfold fixTy; decide)
  obtain ⟨pre, sp, hs, hp⟩ := h.ll
  have hcl := h.capl
  refine ⟨Blk.set h.b 0 _, ⟨pre ++ [codeI q.r], sp, ?_, by simp [hp]⟩, by simp, by simp at hcl ⊢; omega, by have := h.capm; omega, fun x hx => (h.cd x (List.mem_cons_of_mem _ hx)).keepM hC hM (h.ne x (List.mem_cons_of_mem _ hx)), (List.nodup_cons.1 h.nd).2⟩
  have := hs.keep hC (hM.not hs (.inr rfl))
  simpa using this
end
def nextQ : List CdR → List CdR
  | q :: p :: t => if q.c.ended then nextQ (p :: t) else q :: p :: t
  | [q] => [q]
  | [] => []
theorem nextQ_two (q p : CdR) (t : List CdR) : nextQ (q :: p :: t) = if q.c.ended then nextQ (p :: t) else q :: p :: t := rfl
def NextP (w : World) (r lb : Nat) (qs : List CdR) (e : Ending) (w' : World) : Prop :=
  e = .returned (.tuple #[]) ∧ Ch (fun k => k = r) w w' ∧ ∃ off cap, ChAt w' r lb off cap qs
/-- how many programs a chain has, read out of its block -/
def chLen (w : World) (r : Nat) : Nat := match w.cell? ⟨r, 0, none⟩ with | some (.slice _ n _) => n | _ => 0
theorem chLen_of {w : World} {r n c : Nat} {A : Option Addr} (h : w.cell? ⟨r, 0, none⟩ = some (.slice A n c)) : chLen w r = n := by unfold chLen; rw [h]
set_option maxHeartbeats 1000000 in
theorem next_any (r lb off cap : Nat) (qs : List CdR) (w : World) (h : ChAt w r lb off cap qs) :
    Calls Try.prog 73 #[.pointer (some ⟨r, 0, none⟩)] w (NextP w r lb (nextQ qs)) := by
  have z1 := nil_Done_Code
  have z2 := method_Done_Code
  go_enter Try.func73, Try.ntmps73
  go_wp2_with fail
  go_loopw [] (fun wr => ∃ off cap ps, ChAt wr r lb off cap ps ∧ nextQ ps = nextQ qs ∧ Ch (fun k => k = r) w wr) (fun wr => chLen wr r)
  case atStart => exact ⟨off, cap, qs, h, rfl, Ch.refl _ _⟩
  case round =>
    obtain ⟨off1, cap1, ps, hA, hn, hC⟩ := hrel
    have HN := Lib.hid hn
    clear hn
    have hc0 := hA.c0
    have hlo := hA.lo
    have hcapl := hA.capl
    have hcapm := hA.capm
    rcases ps with _ | ⟨q, _ | ⟨p, t⟩⟩
    · simp at hlo
    ·
      have hP : NextP w r lb (nextQ qs) (.returned (.tuple #[])) wr := ⟨rfl, hC, off1, cap1, by rw [← HN.out]; exact hA⟩
      simp only [List.length_cons, List.length_nil, Nat.zero_add] at hc0
      have HP := Lib.hid hP
      clear hP
      go_wp2_with fail
      go_returns
      exact HP.out
    ·
      have hh := hA.head
      have hq := hA.cd q (by simp)
      have hd := cdone_any q.r q.i q.cap q.c wr hq
      have hT := hA.tail
      have hmu : chLen (wr.setCell ⟨r, 0, none⟩ (.slice (some ⟨lb, off1 + 1, none⟩) (p :: t).length (cap1 - 1))) r < chLen wr r := by
        rw [chLen_of hc0, chLen_of hT.c0]
        simp
      have HMU := Lib.hid hmu
      have HT := Lib.hid hT
      have HA := Lib.hid hA
      have hfr := hA.b.frozen 0
      obtain ⟨n, hnl⟩ : ∃ n, n = (p :: t).length := ⟨_, rfl⟩
      rw [← hnl] at HMU HT
      have hnl2 : (q :: p :: t).length = n + 1 := by rw [hnl]; rfl
      rw [hnl2] at hc0 hcapl hlo
      have hn1 : 1 ≤ n := by rw [hnl]; simp
      have hcapl2 : ((1 : Int) < ((n + 1 : Nat) : Int)) := by omega
      clear hmu hT hA hnl hnl2
      cases he : q.c.ended
      · have HE := Lib.hid he
        rw [he] at hd
        have hP : NextP w r lb (nextQ qs) (.returned (.tuple #[])) wr := ⟨rfl, hC, off1, cap1, by rw [← HN.out, nextQ_two, if_neg (by rw [HE.out]; simp)]; exact HA.out⟩
        have HP := Lib.hid hP
        clear hP he
        go_wp2_with (go_at_call 32; refine hd.mono ?_; rintro e w1 ⟨rfl, rfl⟩)
        go_returns
        exact HP.out
      · have HE := Lib.hid he
        rw [he] at hd
        clear he
        go_wp2_with (go_at_call 32; refine hd.mono ?_; rintro e w1 ⟨rfl, rfl⟩)
        go_roundw
        case rel => exact ⟨off1 + 1, cap1 - 1, p :: t, HT.out, by rw [← HN.out, nextQ_two, if_pos HE.out], hC.setCell (p := ⟨r, 0, none⟩) (.inl rfl) _⟩
        case measure => exact HMU.out

def doneQ : List CdR → Bool
  | [q] => q.c.ended
  | _ => false
def headQ : List CdR → Cd
  | q :: _ => q.c
  | [] => newCd []
section
variable {w w' : World} {r lb off cap : Nat} {q : CdR} {t : List CdR}
theorem ChAt.turn {F : Nat → Prop} {c' : Cd} (h : ChAt w r lb off cap (q :: t)) (hq : CdAt w' q.r q.i q.cap c') (hc : Ch F w w') (hF : Mut w F) (hr : ¬ F r) (ht : ∀ p ∈ t, ¬ F p.r) : ChAt w' r lb off cap ({ q with c := c' } :: t) := by
  obtain ⟨pre, sp, hs, hp⟩ := h.ll
  refine ⟨by simpa using h.b.keep hc hr, ⟨pre, sp, by simpa using hs.keep hc (hF.not hs (.inr rfl)), hp⟩, by simp, by simpa using h.capl, h.capm, fun p hm => ?_, by simpa using h.nd⟩
  rcases List.mem_cons.1 hm with rfl | hm
  · exact hq
  · exact (h.cd p (List.mem_cons_of_mem _ hm)).keepM hc hF (ht p hm)
theorem ChAt.other (h : ChAt w r lb off cap (q :: t)) : ∀ p ∈ t, p.r ≠ q.r := fun p hp e => by
  have := (List.nodup_cons.1 h.nd).1
  exact this (by show q.r ∈ _; rw [← e]; exact List.mem_map_of_mem hp)
end
theorem chdone_any (r lb off cap : Nat) (qs : List CdR) (w : World) (h : ChAt w r lb off cap qs) :
    Calls Try.prog 113 #[.pointer (some ⟨r, 0, none⟩)] w fun e w' => e = .returned (.bool (doneQ qs)) ∧ w = w' := by
  have z1 := nil_Done_Code
  have z2 := method_Done_Code
  have hc0 := h.c0
  rcases qs with _ | ⟨q, _ | ⟨p, t⟩⟩
  · have := h.lo; simp at this
  · have hh := h.head
    have hd := cdone_any q.r q.i q.cap q.c w (h.cd q (by simp))
    have hcl := h.capl
    have hcm := h.capm
    simp only [List.length_cons, List.length_nil, Nat.zero_add] at hc0 hcl
    show Calls _ _ _ _ fun e w' => e = .returned (.bool q.c.ended) ∧ w = w'
    generalize q.c.ended = b at hd ⊢
    go_enter Try.func113, Try.ntmps113
    go_wp2_with (go_at_call 32; refine hd.mono ?_; rintro e w1 ⟨rfl, rfl⟩)
    go_ret
    exact ⟨rfl, rfl⟩
  · obtain ⟨n, hn⟩ : ∃ n, n = (q :: p :: t).length := ⟨_, rfl⟩
    rw [← hn] at hc0
    have h2 : ((n : Int) == 1) = false := by rw [beq_eq_false_iff_ne, hn]; simp only [List.length_cons]; omega
    show Calls _ _ _ _ fun e w' => e = .returned (.bool false) ∧ w = w'
    clear hn
    go_enter Try.func113, Try.ntmps113
    go_wp2_with fail
    go_ret
    exact ⟨rfl, rfl⟩
theorem chresult_any (r lb off cap : Nat) (qs : List CdR) (w : World) (h : ChAt w r lb off cap qs) :
    Calls Try.prog 114 #[.pointer (some ⟨r, 0, none⟩)] w fun e w' => e = .returned (.int .u64 (if doneQ qs then (headQ qs).res else 0)) ∧ w = w' := by
  have z1 := nil_Result_Code
  have z2 := method_Result_Code
  have hc0 := h.c0
  have hdn := chdone_any r lb off cap qs w h
  cases hb : doneQ qs
  · rw [hb] at hdn
    clear hb
    simp only [Bool.false_eq_true, if_false]
    go_enter Try.func114, Try.ntmps114
    go_wp2_with (go_at_call 113; refine hdn.mono ?_; rintro e w1 ⟨rfl, rfl⟩)
    go_ret
    exact ⟨rfl, rfl⟩
  · rw [hb] at hdn
    simp only [if_true]
    rcases qs with _ | ⟨q, t⟩
    · cases hb
    · have hh := h.head
      have hd := cresult_any q.r q.i q.cap q.c w (h.cd q (by simp))
      have hcl := h.capl
      have hcm := h.capm
      obtain ⟨n, hn⟩ : ∃ n, n = (q :: t).length := ⟨_, rfl⟩
      rw [← hn] at hc0 hcl
      have h2 : (0 : Int) < n := by rw [hn]; simp only [List.length_cons]; omega
      clear hb hn
      show Calls _ _ _ _ fun e w' => e = .returned (.int .u64 q.c.res) ∧ w = w'
      go_enter Try.func114, Try.ntmps114
      go_wp2_with (first | (go_at_call 113; refine hdn.mono ?_; rintro e w1 ⟨rfl, rfl⟩) | (go_at_call 33; refine hd.mono ?_; rintro e w1 ⟨rfl, rfl⟩))
      go_ret
      exact ⟨rfl, rfl⟩
theorem chstep_end {σ : Type} (m : Mif σ) (r lb off cap : Nat) (qs : List CdR) (w : World) (h : ChAt w r lb off cap qs) (hb : doneQ qs = true) :
    Calls Try.prog 115 #[.pointer (some ⟨r, 0, none⟩), m.v] w fun e w' => e = .returned (.tuple #[.bool false, .int .i64 17]) ∧ w = w' := by
  have hdn := chdone_any r lb off cap qs w h
  rw [hb] at hdn
  clear hb
  go_enter Try.func115, Try.ntmps115
  go_wp2_with (go_at_call 113; refine hdn.mono ?_; rintro e w1 ⟨rfl, rfl⟩)
  go_ret2
  exact ⟨rfl, rfl⟩
def ChP {σ : Type} (m : Mif σ) (w : World) (r lb qr : Nat) (qs : List CdR) (s : σ) (v : Value) (e : Ending) (w' : World) : Prop :=
  e = .returned v ∧ (∃ off cap, ChAt w' r lb off cap qs) ∧ m.At w' s ∧ Ch (fun k => k = r ∨ k = qr ∨ m.own k) w w'
set_option maxHeartbeats 1000000 in
theorem chstep_run {σ : Type} (m : Mif σ) (hm : m.Ok) (r lb off cap : Nat) (q : CdR) (t : List CdR) (w : World) (s : σ) (h : ChAt w r lb off cap (q :: t)) (ha : m.At w s) (he : q.c.ended = false) :
    Calls Try.prog 115 #[.pointer (some ⟨r, 0, none⟩), m.v] w
      (ChP m w r lb q.r (nextQ ({ q with c := stC q.c (m.e s q.c.cur) (m.b s q.c.cur) } :: t)) (m.n s q.c q.c.cur) (.tuple #[.bool (doWt q.c.cur (m.e s q.c.cur) (m.b s q.c.cur)), .int .i64 (doEr q.c.cur (m.e s q.c.cur))])) := by
  have z1 := nil_Step_Code
  have z2 := method_Step_Code
  have hc0 := h.c0
  have hh := h.head
  have hcl := h.capl
  have hcm := h.capm
  have hq := h.cd q (by simp)
  have hdn := chdone_any r lb off cap (q :: t) w h
  have hdq : doneQ (q :: t) = false := by
    cases t with
    | nil => exact he
    | cons p t => rfl
  rw [hdq] at hdn
  have hst := cstep_run m hm q.r q.i q.cap q.c w s hq ha he
  have hno : ¬ m.own r := hm.not_own ha h.b (by unfold memTy; decide)
  have hnq := fun p (hp : p ∈ t) => hm.not_own ha (h.cd p (List.mem_cons_of_mem _ hp)).b (by unfold memTy; decide)
  have hot := h.other
  have hrq := h.ne q (by simp)
  have hmut : Mut w (fun k => k = q.r ∨ m.own k) := (Mut.one hq.b (by unfold fixTy; decide)).or (hm.mut ha)
  have herr : doEr q.c.cur (m.e s q.c.cur) ≠ 0 → (stC q.c (m.e s q.c.cur) (m.b s q.c.cur)).ended = false := fun h1 => by
    unfold stC
    dsimp only
    rw [if_pos (.inl h1), doC_ended, he]
    intro h9
    unfold doEr at h1
    rw [h9] at h1
    simp at h1
  have key : ∀ (D : Cd) (s' : σ) (w2 : World), CdAt w2 q.r q.i q.cap D → m.At w2 s' → Ch (fun k => k = q.r ∨ m.own k) w w2 → ChAt w2 r lb off cap ({ q with c := D } :: t) ∧ m.At w2 s' ∧ Ch (fun k => k = r ∨ k = q.r ∨ m.own k) w w2 := fun D s' w2 h1 h2 h3 =>
    ⟨h.turn h1 h3 hmut (fun e => e.elim (fun e => hrq e.symm) hno) (fun p hp e => e.elim (hot p hp) (hnq p hp)), h2, h3.mono (fun _ _ e => .inr e)⟩
  have HK := Lib.hid key
  have HER := Lib.hid herr
  obtain ⟨n, hn⟩ : ∃ n, n = (q :: t).length := ⟨_, rfl⟩
  rw [← hn] at hc0 hcl
  have h2 : (0 : Int) < n := by rw [hn]; simp only [List.length_cons]; omega
  have hmk := hm.keep
  clear hn hdq key herr he hnq hot hmut
  generalize stC q.c (m.e s q.c.cur) (m.b s q.c.cur) = D at *
  generalize doWt q.c.cur (m.e s q.c.cur) (m.b s q.c.cur) = wt at *
  generalize doEr q.c.cur (m.e s q.c.cur) = er at *
  generalize m.n s q.c q.c.cur = s' at *
  by_cases hz : er = 0
  · subst hz
    go_enter Try.func115, Try.ntmps115
    go_wp2_with (first | (go_at_call 113; refine hdn.mono ?_; rintro e w1 ⟨rfl, rfl⟩) | (go_at_call 31; refine hst.mono ?_; rintro e w2 ⟨rfl, hP1, hP2, hP3⟩; obtain ⟨k1, k2, k3⟩ := HK.out D s' w2 hP1 hP2 hP3) | (go_at_call 73; refine (next_any r lb off cap _ _ k1).mono ?_; rintro e w3 ⟨rfl, hC3, hA3⟩))
    go_ret2
    exact ⟨rfl, hA3, hmk _ _ _ _ k2 hC3 (fun k hk e => hno (e ▸ hk)), k3.trans hC3 (fun _ _ e => .inl e)⟩
  · have hz1 : (er == 0) = false := by simpa using hz
    have hde := HER.out hz
    have HZ := Lib.hid hz
    have HDE := Lib.hid hde
    clear hz hde
    go_enter Try.func115, Try.ntmps115
    go_wp2_with (first | (go_at_call 113; refine hdn.mono ?_; rintro e w1 ⟨rfl, rfl⟩) | (go_at_call 31; refine hst.mono ?_; rintro e w2 ⟨rfl, hP1, hP2, hP3⟩; obtain ⟨k1, k2, k3⟩ := HK.out D s' w2 hP1 hP2 hP3))
    go_ret2
    have hnx : nextQ ({ q with c := D } :: t) = { q with c := D } :: t := by
      cases t with
      | nil => rfl
      | cons p t => rw [nextQ_two, if_neg (by rw [HDE.out]; simp)]
    exact ⟨rfl, by rw [hnx]; exact ⟨_, _, k1⟩, k2, k3⟩
theorem chstep_nil (r : Nat) (w : World) : Calls Try.prog 115 #[.pointer (some ⟨r, 0, none⟩), .nilIface] w fun e w' => e = .returned (.tuple #[.bool false, .int .i64 1]) ∧ w = w' := by
  go_enter Try.func115, Try.ntmps115
  go_wp2
  go_ret2
  exact ⟨rfl, rfl⟩
end Go.Proofs.Ytmbofohdjdipdaa
