/-
  The lock's invariant, over numbers alone: who has it, who waits for it in which order, and what the words say of that; every step keeps it.
-/
import Derived.Test.YtmlhdcpahfgckaaMcsP
namespace Go.Proofs.Ytmlhdcpahfgckaa
open Go.RowKit

def nx (ws : List Int) (t : Nat) : Int := ws.getD (1 + 6 * t) 0
def wa (ws : List Int) (t : Nat) : Int := ws.getD (2 + 6 * t) 0
abbrev Pr := Nat → Option (Bool × Rn)
def upd {α : Type} (f : Nat → α) (t : Nat) (v : α) : Nat → α := fun s => if s = t then v else f s
theorem upd_same {α : Type} (f : Nat → α) (t : Nat) (v : α) : upd f t v t = v := by simp [upd]
theorem upd_ne {α : Type} (f : Nat → α) {t s : Nat} (v : α) (h : s ≠ t) : upd f t v s = f s := by simp [upd, h]
theorem nx_set (ws : List Int) {i s : Nat} (v : Int) (h : i ≠ 1 + 6 * s) : nx (ws.set i v) s = nx ws s := getD_set_ne ws v h
theorem wa_set (ws : List Int) {i s : Nat} (v : Int) (h : i ≠ 2 + 6 * s) : wa (ws.set i v) s = wa ws s := getD_set_ne ws v h

def Lk (P : Pr) (ws : List Int) : Nat → List Nat → Prop
  | p, [] => nx ws p = 0
  | p, s :: r => (∃ x, P s = some (false, x) ∧ wa ws s = 1 ∧ ((x.pc = 4 ∧ x.other = 2 * (p : Int) + 1 ∧ nx ws p = 0) ∨ (x.pc = 5 ∧ nx ws p = 2 * (s : Int) + 1))) ∧ Lk P ws s r
def lastOf : Nat → List Nat → Nat
  | p, [] => p
  | _, s :: r => lastOf s r
def lockOf : Option Nat → List Nat → Int
  | some p, q => 2 * (lastOf p q : Int) + 1
  | none, [] => 0
  | none, s :: r => 2 * (lastOf s r : Int) + 1

theorem lastOf_mem : ∀ (p : Nat) (q : List Nat), lastOf p q ∈ p :: q
  | p, [] => by simp [lastOf]
  | p, s :: r => by
    have := lastOf_mem s r
    rw [lastOf]
    exact List.mem_cons_of_mem _ this
theorem lastOf_snoc : ∀ (p : Nat) (q : List Nat) (t : Nat), lastOf p (q ++ [t]) = t
  | _, [], _ => rfl
  | _, s :: r, t => lastOf_snoc s r t
theorem Lk_mem {P : Pr} {ws : List Int} : ∀ {p : Nat} {q : List Nat}, Lk P ws p q → ∀ s ∈ q, ∃ x, P s = some (false, x) ∧ (x.pc = 4 ∨ x.pc = 5) ∧ wa ws s = 1
  | _, [], _, s, hs => by cases hs
  | p, a :: r, h, s, hs => by
    obtain ⟨⟨x, h1, h2, h3⟩, h4⟩ := h
    rcases List.mem_cons.1 hs with rfl | hs
    · exact ⟨x, h1, by omega, h2⟩
    · exact Lk_mem h4 s hs
theorem Lk_frame {P P' : Pr} {ws ws' : List Int} : ∀ {p : Nat} {q : List Nat}, Lk P ws p q → (∀ s ∈ q, P' s = P s ∧ wa ws' s = wa ws s) → (∀ s ∈ p :: q, nx ws' s = nx ws s) → Lk P' ws' p q
  | p, [], h, _, h2 => by
    have := h2 p (by simp)
    unfold Lk at h ⊢
    omega
  | p, a :: r, h, h1, h2 => by
    obtain ⟨⟨x, g1, g2, g3⟩, g4⟩ := h
    have e1 := h1 a (by simp)
    have e2 := h2 p (by simp)
    refine ⟨⟨x, by rw [e1.1]; exact g1, by rw [e1.2]; exact g2, by rw [e2]; exact g3⟩, Lk_frame g4 (fun s hs => h1 s (by simp [hs])) (fun s hs => h2 s (List.mem_cons_of_mem _ hs))⟩
theorem Lk_last {P : Pr} {ws : List Int} : ∀ {p : Nat} {q : List Nat} (_ : Lk P ws p q), nx ws (lastOf p q) = 0
  | _, [], h => h
  | _, s :: r, h => Lk_last (p := s) (q := r) h.2
theorem Lk_snoc {P : Pr} {ws : List Int} {t : Nat} {x : Rn} (hP : P t = some (false, x)) (hw : wa ws t = 1) (hp : x.pc = 4) (hn : nx ws t = 0) : ∀ {p : Nat} {q : List Nat}, Lk P ws p q → x.other = 2 * (lastOf p q : Int) + 1 → Lk P ws p (q ++ [t])
  | _, [], h, ho => ⟨⟨x, hP, hw, .inl ⟨hp, ho, h⟩⟩, hn⟩
  | _, _ :: _, h, ho => ⟨h.1, Lk_snoc hP hw hp hn h.2 ho⟩
theorem Lk_link {P : Pr} {ws : List Int} {t : Nat} {x : Rn} (hP : P t = some (false, x)) (hp : x.pc = 4) : ∀ {p0 : Nat} {q : List Nat}, Lk P ws p0 q → (p0 :: q).Nodup → t ∈ q → (∀ s ∈ p0 :: q, 1 + 6 * s < ws.length) →
    ∃ p, p ∈ p0 :: q ∧ p ≠ t ∧ x.other = 2 * (p : Int) + 1 ∧ Lk (upd P t (some (false, { x with pc := 5 }))) (ws.set (1 + 6 * p) (2 * (t : Int) + 1)) p0 q
  | _, [], _, _, ht, _ => by cases ht
  | p0, a :: r, h, hnd, ht, hl => by
    obtain ⟨⟨y, g1, g2, g3⟩, g4⟩ := h
    obtain ⟨n1, n2⟩ := List.nodup_cons.1 hnd
    obtain ⟨n3, n4⟩ := List.nodup_cons.1 n2
    by_cases hat : a = t
    · subst hat
      rw [hP] at g1
      injection g1 with g1
      injection g1 with _ g1
      subst g1
      have g5 : x.other = 2 * (p0 : Int) + 1 ∧ nx ws p0 = 0 := by omega
      refine ⟨p0, by simp, fun e => n1 (by simp [e]), g5.1, ⟨⟨_, upd_same _ _ _, ?_, .inr ⟨rfl, ?_⟩⟩, ?_⟩⟩
      · rw [wa_set _ _ (by omega)]; exact g2
      · exact getD_set_eq _ _ (hl p0 (by simp))
      · refine Lk_frame g4 (fun s hs => ⟨upd_ne _ _ (fun e => n3 (e ▸ hs)), wa_set _ _ (by omega)⟩) (fun s hs => nx_set _ _ (fun e => n1 ?_))
        have : p0 = s := by omega
        rw [this]; exact hs
    · have htr : t ∈ r := by
        rcases List.mem_cons.1 ht with e | e
        · exact absurd e.symm hat
        · exact e
      obtain ⟨p, k1, k2, k3, k4⟩ := Lk_link hP hp g4 n2 htr (fun s hs => hl s (List.mem_cons_of_mem _ hs))
      have hpp : p ≠ p0 := fun e => n1 (e ▸ k1)
      refine ⟨p, List.mem_cons_of_mem _ k1, k2, k3, ⟨⟨y, by rw [upd_ne _ _ hat]; exact g1, by rw [wa_set _ _ (by omega)]; exact g2, by rw [nx_set _ _ (by omega)]; exact g3⟩, k4⟩⟩

structure Inv (n : Nat) (P : Pr) (hs : Nat → Bool) (ws : List Int) (q : List Nat) (o : Option Nat) : Prop where
  len : ws.length = 1 + 6 * n
  nd : (o.toList ++ q).Nodup
  lt : ∀ t ∈ o.toList ++ q, t < n
  lock : ws.getD 0 0 = lockOf o q
  shape : ∀ t b x, P t = some (b, x) → t < n ∧ x.lock = 0 ∧ x.node = 2 * (t : Int) ∧ x.ended = false
  hsO : ∀ t, hs t = true → o = some t ∧ P t = none
  own : ∀ t, o = some t → Lk P ws t q ∧ ((P t = none ∧ hs t = true) ∨ ∃ x, P t = some (true, x) ∧ 1 ≤ x.pc ∧ x.pc ≤ 4 ∧ (x.pc = 3 → q ≠ []) ∧ (x.pc = 4 → ∃ s r y, q = s :: r ∧ x.other = 2 * (s : Int) + 1 ∧ P s = some (false, y) ∧ y.pc = 5))
  free : o = none → ∀ s r, q = s :: r → Lk P ws s r ∧ ∃ x, P s = some (false, x) ∧ x.pc = 5 ∧ wa ws s = 0
  rel : ∀ t x, P t = some (true, x) → o = some t
  out : ∀ t x, P t = some (false, x) → t ∉ q → (x.pc = 1 ∨ (x.pc = 2 ∧ nx ws t = 0) ∨ (x.pc = 3 ∧ nx ws t = 0 ∧ wa ws t = 1))

section
variable {n : Nat} {P : Pr} {hs : Nat → Bool} {ws ws' : List Int} {q : List Nat} {o : Option Nat} {t : Nat} {x x' : Rn} {b : Bool}
theorem Inv.inq (h : Inv n P hs ws q o) (ht : t ∈ q) : ∃ x, P t = some (false, x) ∧ (x.pc = 4 ∨ x.pc = 5) := by
  cases o with
  | some p =>
    obtain ⟨x, h1, h2, _⟩ := Lk_mem (h.own p rfl).1 t ht
    exact ⟨x, h1, h2⟩
  | none =>
    cases q with
    | nil => cases ht
    | cons s r =>
      obtain ⟨h1, x, h2, h3, _⟩ := h.free rfl s r rfl
      rcases List.mem_cons.1 ht with rfl | ht
      · exact ⟨x, h2, .inr h3⟩
      · obtain ⟨x, h1, h2, _⟩ := Lk_mem h1 t ht
        exact ⟨x, h1, h2⟩
theorem Inv.notOwner (h : Inv n P hs ws q o) (hP : P t = some (false, x)) : o ≠ some t := fun e => by
  rcases (h.own t e).2 with ⟨h1, _⟩ | ⟨y, h1, _⟩
  · rw [hP] at h1; cases h1
  · rw [hP] at h1; cases h1
theorem Inv.lockPos (h : Inv n P hs ws q o) (hz : ws.getD 0 0 = 0) : o = none ∧ q = [] := by
  have := h.lock
  rw [hz] at this
  cases o with
  | some p => simp only [lockOf] at this; omega
  | none =>
    cases q with
    | nil => exact ⟨rfl, rfl⟩
    | cons s r => simp only [lockOf] at this; omega
/-- a thread outside of the queue: only its own words and its program have changed -/
theorem Inv.frameOut (h : Inv n P hs ws q o) (hP : P t = some (false, x)) (hq : t ∉ q) (hx : x'.lock = 0 ∧ x'.node = 2 * (t : Int) ∧ x'.ended = false)
    (ho : x'.pc = 1 ∨ (x'.pc = 2 ∧ nx ws' t = 0) ∨ (x'.pc = 3 ∧ nx ws' t = 0 ∧ wa ws' t = 1)) (hl : ws'.length = ws.length) (h0 : ws'.getD 0 0 = ws.getD 0 0) (hn : ∀ s, s ≠ t → nx ws' s = nx ws s ∧ wa ws' s = wa ws s) :
    Inv n (upd P t (some (false, x'))) hs ws' q o := by
  have hno := h.notOwner hP
  have hneq : ∀ s ∈ q, s ≠ t := fun s hs e => hq (e ▸ hs)
  refine ⟨by rw [hl]; exact h.len, h.nd, h.lt, by rw [h0]; exact h.lock, fun s b y hy => ?_, fun s hs' => ?_, fun p hp => ?_, fun hp s r hr => ?_, fun s y hy => ?_, fun s y hy hsq => ?_⟩
  · by_cases e : s = t
    · subst e
      rw [upd_same] at hy
      injection hy with hy
      injection hy with _ hy
      subst hy
      exact ⟨(h.shape _ _ _ hP).1, hx⟩
    · rw [upd_ne _ _ e] at hy
      exact h.shape _ _ _ hy
  · have h1 := h.hsO s hs'
    have e : s ≠ t := fun e => hno (e ▸ h1.1)
    exact ⟨h1.1, by rw [upd_ne _ _ e]; exact h1.2⟩
  · have e : p ≠ t := fun e => hno (e ▸ hp)
    obtain ⟨h1, h2⟩ := h.own p hp
    refine ⟨Lk_frame h1 (fun s hs => ⟨upd_ne _ _ (hneq s hs), (hn s (hneq s hs)).2⟩) (fun s hs => (hn s ?_).1), ?_⟩
    · rcases List.mem_cons.1 hs with rfl | hs
      · exact e
      · exact hneq s hs
    · rw [upd_ne _ _ e]
      rcases h2 with h2 | ⟨y, h3, h4, h5, h6, h7⟩
      · exact .inl h2
      · refine .inr ⟨y, h3, h4, h5, h6, fun e4 => ?_⟩
        obtain ⟨s, r, z, k1, k2, k3, k4⟩ := h7 e4
        exact ⟨s, r, z, k1, k2, by rw [upd_ne _ _ (hneq s (by rw [k1]; simp))]; exact k3, k4⟩
  · obtain ⟨h1, y, h2, h3, h4⟩ := h.free hp s r hr
    have hsr : ∀ a ∈ s :: r, a ≠ t := fun a ha => hneq a (hr ▸ ha)
    exact ⟨Lk_frame h1 (fun a ha => ⟨upd_ne _ _ (hsr a (by simp [ha])), (hn a (hsr a (by simp [ha]))).2⟩) (fun a ha => (hn a (hsr a ha)).1), y, by rw [upd_ne _ _ (hsr s (by simp))]; exact h2, h3, by rw [(hn s (hsr s (by simp))).2]; exact h4⟩
  · by_cases e : s = t
    · subst e
      rw [upd_same] at hy
      cases hy
    · rw [upd_ne _ _ e] at hy
      exact h.rel _ _ hy
  · by_cases e : s = t
    · subst e
      rw [upd_same] at hy
      injection hy with hy
      injection hy with _ hy
      subst hy
      exact ho
    · rw [upd_ne _ _ e] at hy
      rw [(hn s e).1, (hn s e).2]
      exact h.out _ _ hy hsq
/-- the owner's program goes on, and no word has changed -/
theorem Inv.frameOwn (h : Inv n P hs ws q o) (hP : P t = some (true, x)) (hx : x'.lock = 0 ∧ x'.node = 2 * (t : Int) ∧ x'.ended = false)
    (h1 : 1 ≤ x'.pc) (h4 : x'.pc ≤ 4) (h3 : x'.pc = 3 → q ≠ []) (h5 : x'.pc = 4 → ∃ s r y, q = s :: r ∧ x'.other = 2 * (s : Int) + 1 ∧ P s = some (false, y) ∧ y.pc = 5) :
    Inv n (upd P t (some (true, x'))) hs ws q o := by
  have ho := h.rel t x hP
  have hneq : ∀ s ∈ q, s ≠ t := fun s hs e => by
    obtain ⟨y, hy, _⟩ := h.inq hs
    rw [e, hP] at hy
    cases hy
  refine ⟨h.len, h.nd, h.lt, h.lock, fun s b y hy => ?_, fun s hs' => ?_, fun p hp => ?_, fun hp => ?_, fun s y hy => ?_, fun s y hy hsq => ?_⟩
  · by_cases e : s = t
    · subst e
      rw [upd_same] at hy
      injection hy with hy
      injection hy with _ hy
      subst hy
      exact ⟨(h.shape _ _ _ hP).1, hx⟩
    · rw [upd_ne _ _ e] at hy
      exact h.shape _ _ _ hy
  · have k := h.hsO s hs'
    have e : s ≠ t := fun e => by rw [e, hP] at k; cases k.2
    exact ⟨k.1, by rw [upd_ne _ _ e]; exact k.2⟩
  · rw [ho] at hp
    injection hp with hp
    subst hp
    refine ⟨Lk_frame (h.own t ho).1 (fun s hs => ⟨upd_ne _ _ (hneq s hs), rfl⟩) (fun _ _ => rfl), .inr ⟨x', upd_same _ _ _, h1, h4, h3, fun e4 => ?_⟩⟩
    obtain ⟨s, r, z, k1, k2, k3, k4⟩ := h5 e4
    exact ⟨s, r, z, k1, k2, by rw [upd_ne _ _ (hneq s (by rw [k1]; simp))]; exact k3, k4⟩
  · rw [ho] at hp; cases hp
  · by_cases e : s = t
    · rw [e]; exact ho
    · rw [upd_ne _ _ e] at hy
      exact h.rel _ _ hy
  · by_cases e : s = t
    · subst e
      rw [upd_same] at hy
      cases hy
    · rw [upd_ne _ _ e] at hy
      exact h.out _ _ hy hsq
end
end Go.Proofs.Ytmlhdcpahfgckaa
