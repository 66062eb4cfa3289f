/-
  Every step keeps the lock's invariant; and some step does not wait.
-/
import Derived.Test.YtmlhdcpahfgckaaMcsI
namespace Go.Proofs.Ytmlhdcpahfgckaa
open Go.RowKit

def StepOk (n : Nat) (P : Pr) (hs : Nat → Bool) (ws : List Int) (q : List Nat) (t : Nat) (b : Bool) (u : Out) : Prop :=
  u.e = 0 ∧
  (u.x.ended = false → ∃ o2, Inv n (upd P t (some (b, u.x))) hs u.ws (if b = false ∧ u.ws.getD 0 0 ≠ ws.getD 0 0 then q ++ [t] else q) o2) ∧
  (u.x.ended = true → b = true → ∃ o2, Inv n (upd P t none) hs u.ws q o2) ∧
  (u.x.ended = true → b = false → (∀ s, hs s = false) ∧ ∃ q2, (if u.ws.getD 0 0 ≠ ws.getD 0 0 then q ++ [t] else q) = t :: q2 ∧ Inv n (upd P t none) (upd hs t true) u.ws q2 (some t))
theorem nodup_snoc {l : List Nat} {t : Nat} (h : l.Nodup) (hn : t ∉ l) : (l ++ [t]).Nodup :=
  List.nodup_append.2 ⟨h, by simp, fun a ha b hb e => hn (by rw [List.mem_singleton.1 hb] at e; exact e ▸ ha)⟩
section
variable {n : Nat} {P : Pr} {hs : Nat → Bool} {ws ws' : List Int} {q : List Nat} {o : Option Nat} {t : Nat} {x x' : Rn} {b : Bool}
/-- a step after which the program goes on, and the lock's word is as it was -/
theorem stepOk_on {u : Out} (hu : u = ⟨x', ws', u.wt, 0⟩) (he : x'.ended = false) (h0 : ws'.getD 0 0 = ws.getD 0 0) (hI : ∃ o2, Inv n (upd P t (some (b, x'))) hs ws' q o2) : StepOk n P hs ws q t b u := by
  rw [hu]
  refine ⟨rfl, fun _ => ?_, fun e => ?_, fun e => ?_⟩
  · rw [if_neg (by rintro ⟨_, h⟩; exact h h0)]; exact hI
  · rw [he] at e; cases e
  · rw [he] at e; cases e
theorem Inv.cons_lt (h : Inv n P hs ws q o) (ht : t ∈ q) : t < n := h.lt t (by simp [ht])
theorem Inv.stepA (h : Inv n P hs ws q o) (hP : P t = some (false, x)) : StepOk n P hs ws q t false (stp false 1 n x ws) := by
  obtain ⟨ht, s1, s2, s3⟩ := h.shape t false x hP
  have hl := h.len
  have hno := h.notOwner hP
  have en : ∀ (a : Nat), (1 + 3 * (2 * (a : Int))).toNat = 1 + 6 * a := fun a => by omega
  have ew : ∀ (a : Nat), (1 + 3 * (2 * (a : Int)) + 1).toNat = 2 + 6 * a := fun a => by omega
  by_cases hq : t ∈ q
  · obtain ⟨y, hy, hpc⟩ := h.inq hq
    rw [hP] at hy
    injection hy with hy
    injection hy with _ hy
    subst hy
    have hne : ∀ s y, P s = some (true, y) → s ≠ t := fun s y hs e => by rw [e, hP] at hs; cases hs
    rcases hpc with hpc | hpc
    · -- a link
      have hlen : ∀ s, s < n → 1 + 6 * s < ws.length := fun s hs => by omega
      have fin : ∀ p : Nat, p < n → x.other = 2 * (p : Int) + 1 → stp false 1 n x ws = ⟨{ x with pc := 5 }, ws.set (1 + 6 * p) (2 * (t : Int) + 1), false, 0⟩ := fun p hp ho => by
        obtain ⟨lock, node, pc, other, ended⟩ := x
        dsimp only at s1 s2 s3 hpc ho ⊢
        subst s1 s2 s3 hpc ho
        rw [stpA4 1 n 0 (2 * (t : Int)) (2 * (p : Int) + 1) ws (by omega) (by omega) (by omega)]
        rw [show (1 : Int) + 3 * (2 * (p : Int) + 1 - 1) = 1 + 3 * (2 * (p : Int)) by omega, en]
      have key : ∀ p : Nat, p < n → p ≠ t → (∀ a y, P a = some (false, y) → a ∉ q → a ≠ p) → (∀ a, o = some a → Lk (upd P t (some (false, { x with pc := 5 }))) (ws.set (1 + 6 * p) (2 * (t : Int) + 1)) a q) →
          (o = none → ∀ s r, q = s :: r → s ≠ t ∧ Lk (upd P t (some (false, { x with pc := 5 }))) (ws.set (1 + 6 * p) (2 * (t : Int) + 1)) s r) →
          Inv n (upd P t (some (false, { x with pc := 5 }))) hs (ws.set (1 + 6 * p) (2 * (t : Int) + 1)) q o := fun p hp hpt hpo k1 k2 => by
        refine ⟨by rw [List.length_set]; exact hl, h.nd, h.lt, by rw [getD_set_ne _ _ (by omega)]; exact h.lock, fun s b y hy => ?_, fun s hs' => ?_, fun a ha => ⟨k1 a ha, ?_⟩, fun hp' s r hr => ⟨(k2 hp' s r hr).2, ?_⟩, fun s y hy => ?_, fun s y hy hsq => ?_⟩
        · by_cases e : s = t
          · subst e
            rw [upd_same] at hy
            injection hy with hy
            injection hy with _ hy
            subst hy
            exact ⟨ht, s1, s2, s3⟩
          · rw [upd_ne _ _ e] at hy
            exact h.shape _ _ _ hy
        · have k := h.hsO s hs'
          have e : s ≠ t := fun e => hno (e ▸ k.1)
          exact ⟨k.1, by rw [upd_ne _ _ e]; exact k.2⟩
        · have e : a ≠ t := fun e => hno (e ▸ ha)
          rw [upd_ne _ _ e]
          rcases (h.own a ha).2 with h2 | ⟨y, h3, h4, h5, h6, h7⟩
          · exact .inl h2
          · refine .inr ⟨y, h3, h4, h5, h6, fun e4 => ?_⟩
            obtain ⟨s, r, z, g1, g2, g3, g4⟩ := h7 e4
            have e2 : s ≠ t := fun e => by
              rw [e, hP] at g3
              injection g3 with g3
              injection g3 with _ g3
              subst g3
              omega
            exact ⟨s, r, z, g1, g2, by rw [upd_ne _ _ e2]; exact g3, g4⟩
        · obtain ⟨_, y, h2, h3, h4⟩ := h.free hp' s r hr
          exact ⟨y, by rw [upd_ne _ _ (k2 hp' s r hr).1]; exact h2, h3, by rw [wa_set _ _ (by omega)]; exact h4⟩
        · by_cases e : s = t
          · subst e
            rw [upd_same] at hy
            cases hy
          · rw [upd_ne _ _ e] at hy
            exact h.rel _ _ hy
        · have e : s ≠ t := fun e => hsq (e ▸ hq)
          rw [upd_ne _ _ e] at hy
          have e2 := hpo s y hy hsq
          rw [nx_set _ _ (by omega), wa_set _ _ (by omega)]
          exact h.out _ _ hy hsq
      cases ho : o with
      | some a =>
        subst ho
        obtain ⟨p, k1, k2, k3, k4⟩ := Lk_link hP hpc (h.own a rfl).1 h.nd hq (fun s hs => hlen s (h.lt s hs))
        have hpn := h.lt p k1
        rw [fin p hpn k3]
        refine stepOk_on rfl s3 (getD_set_ne _ _ (by omega)) ⟨some a, key p hpn k2 (fun c y hc hcq e => ?_) (fun c hc => by injection hc with hc; subst hc; exact k4) (fun e => by cases e)⟩
        subst e
        rcases List.mem_cons.1 k1 with e | e
        · exact h.notOwner hc (by rw [e])
        · exact hcq e
      | none =>
        subst ho
        cases q with
        | nil => cases hq
        | cons s r =>
          obtain ⟨f1, z, f2, f3, f4⟩ := h.free rfl s r rfl
          have hst : s ≠ t := fun e => by
            rw [e, hP] at f2
            injection f2 with f2
            injection f2 with _ f2
            subst f2
            omega
          have htr : t ∈ r := by
            rcases List.mem_cons.1 hq with e | e
            · exact absurd e.symm hst
            · exact e
          obtain ⟨p, k1, k2, k3, k4⟩ := Lk_link hP hpc f1 h.nd htr (fun a ha => hlen a (h.lt a ha))
          have hpn := h.lt p k1
          rw [fin p hpn k3]
          refine stepOk_on rfl s3 (getD_set_ne _ _ (by omega)) ⟨none, key p hpn k2 (fun c y hc hcq e => ?_) (fun c hc => by cases hc) (fun _ s' r' hr => by injection hr with e1 e2; subst e1 e2; exact ⟨hst, k4⟩)⟩
          subst e
          exact hcq k1
    · -- it waits, or it has the lock
      by_cases hw : wa ws t = 0
      · cases ho : o with
        | some a =>
          subst ho
          obtain ⟨_, _, _, h3⟩ := Lk_mem (h.own a rfl).1 t hq
          omega
        | none =>
          subst ho
          cases q with
          | nil => cases hq
          | cons s r =>
            obtain ⟨f1, z, f2, f3, f4⟩ := h.free rfl s r rfl
            have hst : s = t := by
              rcases List.mem_cons.1 hq with e | e
              · exact e.symm
              · obtain ⟨_, _, _, h3⟩ := Lk_mem f1 t e
                omega
            subst hst
            have hsr := (List.nodup_cons.1 h.nd).1
            have hu : stp false 1 n x ws = ⟨{ x with ended := true }, ws, false, 0⟩ := by
              obtain ⟨lock, node, pc, other, ended⟩ := x
              dsimp only at s1 s2 s3 hpc ⊢
              subst s1 s2 s3 hpc
              rw [stpA5 1 n 0 (2 * (s : Int)) other ws (by omega) (by omega) (by rw [ew]; exact hw)]
            rw [hu]
            have hfalse : ∀ a, hs a = false := fun a => by
              cases e : hs a
              · rfl
              · have := (h.hsO a e).1; cases this
            refine ⟨rfl, fun e => (by cases e), fun _ e => (by cases e), fun _ _ => ⟨hfalse, r, by rw [if_neg (by simp)], ?_⟩⟩
            refine ⟨hl, h.nd, h.lt, by rw [h.lock]; rfl, fun a b y hy => ?_, fun a ha => ?_, fun a ha => ?_, fun e => (by cases e), fun a y hy => ?_, fun a y hy haq => ?_⟩
            · have e : a ≠ s := fun e => by rw [e, upd_same] at hy; cases hy
              rw [upd_ne _ _ e] at hy
              exact h.shape _ _ _ hy
            · by_cases e : a = s
              · rw [e]; exact ⟨rfl, upd_same _ _ _⟩
              · rw [upd_ne _ _ e, hfalse a] at ha; cases ha
            · injection ha with ha
              subst ha
              exact ⟨Lk_frame f1 (fun a ha => ⟨upd_ne _ _ (fun e => hsr (e ▸ ha)), rfl⟩) (fun _ _ => rfl), .inl ⟨upd_same _ _ _, upd_same _ _ _⟩⟩
            · have e : a ≠ s := fun e => by rw [e, upd_same] at hy; cases hy
              rw [upd_ne _ _ e] at hy
              have := h.rel _ _ hy
              cases this
            · have e : a ≠ s := fun e => by rw [e, upd_same] at hy; cases hy
              rw [upd_ne _ _ e] at hy
              exact h.out _ _ hy (by simp; exact ⟨e, haq⟩)
      · have hu : stp false 1 n x ws = ⟨x, ws, true, 0⟩ := by
          obtain ⟨lock, node, pc, other, ended⟩ := x
          dsimp only at s1 s2 s3 hpc ⊢
          subst s1 s2 s3 hpc
          rw [stpA5w 1 n 0 (2 * (t : Int)) other ws (by omega) (by omega) (by rw [ew]; exact hw)]
        rw [hu]
        have e : upd P t (some (false, x)) = P := by
          funext s
          by_cases e : s = t
          · subst e; rw [upd_same, hP]
          · rw [upd_ne _ _ e]
        exact stepOk_on rfl s3 rfl ⟨o, by rw [e]; exact h⟩
  · rcases h.out t x hP hq with hpc | ⟨hpc, g1⟩ | ⟨hpc, g1, g2⟩
    · have hu : stp false 1 n x ws = ⟨{ x with pc := 2 }, ws.set (1 + 6 * t) 0, false, 0⟩ := by
        obtain ⟨lock, node, pc, other, ended⟩ := x
        dsimp only at s1 s2 s3 hpc ⊢
        subst s1 s2 s3 hpc
        rw [stpA1 1 n 0 (2 * (t : Int)) other ws (by omega) (by omega), en]
      rw [hu]
      have h0 : (ws.set (1 + 6 * t) 0).getD 0 0 = ws.getD 0 0 := getD_set_ne _ _ (by omega)
      exact stepOk_on rfl s3 h0 ⟨o, h.frameOut hP hq ⟨s1, s2, s3⟩ (.inr (.inl ⟨rfl, getD_set_eq _ _ (by omega)⟩)) (by simp) h0 (fun s hs => ⟨nx_set _ _ (by omega), wa_set _ _ (by omega)⟩)⟩
    · have hu : stp false 1 n x ws = ⟨{ x with pc := 3 }, ws.set (2 + 6 * t) 1, false, 0⟩ := by
        obtain ⟨lock, node, pc, other, ended⟩ := x
        dsimp only at s1 s2 s3 hpc ⊢
        subst s1 s2 s3 hpc
        rw [stpA2 1 n 0 (2 * (t : Int)) other ws (by omega) (by omega), ew]
      rw [hu]
      have h0 : (ws.set (2 + 6 * t) 1).getD 0 0 = ws.getD 0 0 := getD_set_ne _ _ (by omega)
      exact stepOk_on rfl s3 h0 ⟨o, h.frameOut hP hq ⟨s1, s2, s3⟩ (.inr (.inr ⟨rfl, by rw [nx_set _ _ (by omega)]; exact g1, getD_set_eq _ _ (by omega)⟩)) (by simp) h0 (fun s hs => ⟨nx_set _ _ (by omega), wa_set _ _ (by omega)⟩)⟩
    · have hu0 : ∀ v : Int, (ws.set 0 v).getD 0 0 = v := fun v => getD_set_eq _ _ (by omega)
      by_cases hz : ws.getD 0 0 = 0
      · obtain ⟨rfl, rfl⟩ := h.lockPos hz
        have hu : stp false 1 n x ws = ⟨{ x with ended := true }, ws.set 0 (2 * (t : Int) + 1), false, 0⟩ := by
          obtain ⟨lock, node, pc, other, ended⟩ := x
          dsimp only at s1 s2 s3 hpc ⊢
          subst s1 s2 s3 hpc
          rw [stpA3 1 n 0 (2 * (t : Int)) other ws (by omega) (by omega) hz]
          rfl
        rw [hu]
        have hfalse : ∀ a, hs a = false := fun a => by
          cases e : hs a
          · rfl
          · have := (h.hsO a e).1; cases this
        refine ⟨rfl, fun e => (by cases e), fun _ e => (by cases e), fun _ _ => ⟨hfalse, [], by rw [if_pos (by dsimp only; rw [hu0, hz]; omega)]; rfl, ?_⟩⟩
        refine ⟨by simpa using hl, by simp, by simpa using ht, by dsimp only; rw [hu0]; rfl, fun a b y hy => ?_, fun a ha => ?_, fun a ha => ?_, fun e => (by cases e), fun a y hy => ?_, fun a y hy haq => ?_⟩
        · have e : a ≠ t := fun e => by rw [e, upd_same] at hy; cases hy
          rw [upd_ne _ _ e] at hy
          exact h.shape _ _ _ hy
        · by_cases e : a = t
          · rw [e]; exact ⟨rfl, upd_same _ _ _⟩
          · rw [upd_ne _ _ e, hfalse a] at ha; cases ha
        · injection ha with ha
          subst ha
          refine ⟨?_, .inl ⟨upd_same _ _ _, upd_same _ _ _⟩⟩
          show nx (ws.set 0 _) t = 0
          rw [nx_set _ _ (by omega)]
          exact g1
        · have e : a ≠ t := fun e => by rw [e, upd_same] at hy; cases hy
          rw [upd_ne _ _ e] at hy
          have := h.rel _ _ hy
          cases this
        · have e : a ≠ t := fun e => by rw [e, upd_same] at hy; cases hy
          rw [upd_ne _ _ e] at hy
          dsimp only
          rw [nx_set _ _ (by omega), wa_set _ _ (by omega)]
          exact h.out _ _ hy haq
      · have hu : stp false 1 n x ws = ⟨{ x with other := ws.getD 0 0, pc := 4 }, ws.set 0 (2 * (t : Int) + 1), false, 0⟩ := by
          obtain ⟨lock, node, pc, other, ended⟩ := x
          dsimp only at s1 s2 s3 hpc ⊢
          subst s1 s2 s3 hpc
          rw [stpA3b 1 n 0 (2 * (t : Int)) other ws (by omega) (by omega) hz]
          rfl
        rw [hu]
        have hneq : ∀ s ∈ q, s ≠ t := fun s hs e => hq (e ▸ hs)
        have hnx : ∀ s, nx (ws.set 0 (2 * (t : Int) + 1)) s = nx ws s := fun s => nx_set _ _ (by omega)
        have hwa : ∀ s, wa (ws.set 0 (2 * (t : Int) + 1)) s = wa ws s := fun s => wa_set _ _ (by omega)
        -- the queue grows
        have main : Inv n (upd P t (some (false, { x with other := ws.getD 0 0, pc := 4 }))) hs (ws.set 0 (2 * (t : Int) + 1)) (q ++ [t]) o ∧ ws.getD 0 0 ≠ 2 * (t : Int) + 1 := by
          have hlk := h.lock
          have snoc : ∀ p r, Lk P ws p r → (∀ s ∈ r, s ≠ t) → ws.getD 0 0 = 2 * (lastOf p r : Int) + 1 → Lk (upd P t (some (false, { x with other := ws.getD 0 0, pc := 4 }))) (ws.set 0 (2 * (t : Int) + 1)) p (r ++ [t]) := fun p r hL hr he =>
            Lk_snoc (upd_same _ _ _) (by rw [hwa]; exact g2) rfl (by rw [hnx]; exact g1) (Lk_frame hL (fun s hs => ⟨upd_ne _ _ (hr s hs), hwa s⟩) (fun s _ => hnx s)) he
          have rest : (o.toList ++ (q ++ [t])).Nodup → (∀ s r, q = s :: r → o = none → Lk P ws s r ∧ ws.getD 0 0 = 2 * (lastOf s r : Int) + 1) → (∀ p, o = some p → ws.getD 0 0 = 2 * (lastOf p q : Int) + 1) → (o = none → q ≠ []) → lockOf o (q ++ [t]) = 2 * (t : Int) + 1 →
              Inv n (upd P t (some (false, { x with other := ws.getD 0 0, pc := 4 }))) hs (ws.set 0 (2 * (t : Int) + 1)) (q ++ [t]) o := fun r1 r2 r3 r4 r5 => by
            refine ⟨by simpa using hl, r1, fun s hs => ?_, by rw [hu0, r5], fun a b y hy => ?_, fun a ha => ?_, fun a ha => ⟨snoc a q (h.own a ha).1 hneq (r3 a ha), ?_⟩, fun e s r hr => ?_, fun a y hy => ?_, fun a y hy haq => ?_⟩
            · rw [← List.append_assoc] at hs
              rcases List.mem_append.1 hs with hs | hs
              · exact h.lt s hs
              · rw [List.mem_singleton.1 hs]; exact ht
            · by_cases e : a = t
              · subst e
                rw [upd_same] at hy
                injection hy with hy
                injection hy with _ hy
                subst hy
                exact ⟨ht, s1, s2, s3⟩
              · rw [upd_ne _ _ e] at hy
                exact h.shape _ _ _ hy
            · have k := h.hsO a ha
              have e : a ≠ t := fun e => hno (e ▸ k.1)
              exact ⟨k.1, by rw [upd_ne _ _ e]; exact k.2⟩
            · have e : a ≠ t := fun e => hno (e ▸ ha)
              rw [upd_ne _ _ e]
              rcases (h.own a ha).2 with h2 | ⟨y, h3, h4, h5, h6, h7⟩
              · exact .inl h2
              · refine .inr ⟨y, h3, h4, h5, fun _ => by simp, fun e4 => ?_⟩
                obtain ⟨s, r, z, k1, k2, k3, k4⟩ := h7 e4
                exact ⟨s, r ++ [t], z, by rw [k1]; rfl, k2, by rw [upd_ne _ _ (hneq s (by rw [k1]; simp))]; exact k3, k4⟩
            · cases q with
              | nil => exact absurd rfl (r4 e)
              | cons s0 r0 =>
                injection hr with e1 e2
                subst e1 e2
                obtain ⟨_, y, h2, h3, h4⟩ := h.free e s0 r0 rfl
                obtain ⟨f1, f2⟩ := r2 s0 r0 rfl e
                exact ⟨snoc s0 r0 f1 (fun a ha => hneq a (by simp [ha])) f2, y, by rw [upd_ne _ _ (hneq s0 (by simp))]; exact h2, h3, by rw [hwa]; exact h4⟩
            · by_cases e : a = t
              · subst e
                rw [upd_same] at hy
                cases hy
              · rw [upd_ne _ _ e] at hy
                exact h.rel _ _ hy
            · have e : a ≠ t := fun e => haq (by simp [e])
              rw [upd_ne _ _ e] at hy
              rw [hnx, hwa]
              exact h.out _ _ hy (fun hh => haq (by simp [hh]))
          have hnn : (o.toList ++ (q ++ [t])).Nodup := by
            rw [← List.append_assoc]
            refine nodup_snoc h.nd (fun e => ?_)
            rcases List.mem_append.1 e with e | e
            · exact hno (by cases o with | none => cases e | some p => rw [List.mem_singleton.1 e])
            · exact hq e
          cases o with
          | some p =>
            have hpt : p ≠ t := fun e => hno (by rw [e])
            refine ⟨rest hnn (fun _ _ _ e => by cases e) (fun a ha => by injection ha with ha; subst ha; exact hlk) (fun e => by cases e) (by simp only [lockOf, lastOf_snoc]), ?_⟩
            · rw [hlk]
              have := lastOf_mem p q
              simp only [lockOf]
              intro e
              have e2 : lastOf p q = t := by omega
              rw [e2] at this
              rcases List.mem_cons.1 this with e | e
              · exact hpt e.symm
              · exact hq e
          | none =>
            cases q with
            | nil => exact absurd hlk hz
            | cons s r =>
              refine ⟨rest hnn (fun s' r' e _ => by injection e with e1 e2; subst e1 e2; exact ⟨(h.free rfl s r rfl).1, hlk⟩) (fun a ha => by cases ha) (fun _ => by simp) (by simp only [lockOf, List.cons_append, lastOf_snoc]), ?_⟩
              · rw [hlk]
                have := lastOf_mem s r
                simp only [lockOf]
                intro e
                have e2 : lastOf s r = t := by omega
                rw [e2] at this
                exact hq this
        refine ⟨rfl, fun _ => ⟨o, ?_⟩, fun e => ?_, fun e => ?_⟩
        · rw [if_pos ⟨rfl, by dsimp only; rw [hu0]; exact fun e => main.2 e.symm⟩]
          exact main.1
        · rw [show ({ x with other := ws.getD 0 0, pc := 4 } : Rn).ended = x.ended from rfl, s3] at e; cases e
        · rw [show ({ x with other := ws.getD 0 0, pc := 4 } : Rn).ended = x.ended from rfl, s3] at e; cases e
theorem Inv.stepR (h : Inv n P hs ws q o) (hP : P t = some (true, x)) : StepOk n P hs ws q t true (stp true 1 n x ws) := by
  obtain ⟨ht, s1, s2, s3⟩ := h.shape t true x hP
  have hl := h.len
  have ho := h.rel t x hP
  subst ho
  have en : ∀ (a : Nat), (1 + 3 * (2 * (a : Int))).toNat = 1 + 6 * a := fun a => by omega
  have ew : ∀ (a : Nat), (1 + 3 * (2 * (a : Int)) + 1).toNat = 2 + 6 * a := fun a => by omega
  obtain ⟨m1, m2⟩ := List.nodup_cons.1 h.nd
  obtain ⟨hL, h2⟩ := h.own t rfl
  rcases h2 with ⟨e, _⟩ | ⟨y, hy, p1, p4, p3, pk⟩
  · rw [hP] at e; cases e
  rw [hP] at hy
  injection hy with hy
  injection hy with _ hy
  subst hy
  have hneq : ∀ s ∈ q, s ≠ t := fun s hs e => m1 (e ▸ hs)
  have hfalse : ∀ a, hs a = false := fun a => by
    cases e : hs a
    · rfl
    · obtain ⟨e1, e2⟩ := h.hsO a e
      injection e1 with e1
      rw [← e1, hP] at e2
      cases e2
  -- the program ends: nobody owns the lock
  have fin : ∀ ws2 : List Int, ws2.length = ws.length → ws2.getD 0 0 = lockOf none q → (∀ s, nx ws2 s = nx ws s) → (∀ s, s ∉ q → wa ws2 s = wa ws s) → (∀ s r, q = s :: r → (∃ y, P s = some (false, y) ∧ y.pc = 5) ∧ wa ws2 s = 0 ∧ ∀ a ∈ r, wa ws2 a = wa ws a) → Inv n (upd P t none) hs ws2 q none := fun ws2 k1 k2 k3 k4 k5 => by
    refine ⟨by rw [k1]; exact hl, m2, fun s hs => h.lt s (by simp at hs ⊢; exact .inr hs), k2, fun a b y hy => ?_, fun a ha => ?_, fun a ha => (by cases ha), fun _ s r hr => ?_, fun a y hy => ?_, fun a y hy haq => ?_⟩
    · have e : a ≠ t := fun e => by rw [e, upd_same] at hy; cases hy
      rw [upd_ne _ _ e] at hy
      exact h.shape _ _ _ hy
    · rw [hfalse a] at ha; cases ha
    · obtain ⟨⟨y, h3, h4⟩, h5, h6⟩ := k5 s r hr
      rw [hr] at hL
      refine ⟨Lk_frame hL.2 (fun a ha => ⟨upd_ne _ _ (hneq a (by rw [hr]; simp [ha])), h6 a ha⟩) (fun a _ => k3 a), y, by rw [upd_ne _ _ (hneq s (by rw [hr]; simp))]; exact h3, h4, h5⟩
    · have e : a ≠ t := fun e => by rw [e, upd_same] at hy; cases hy
      rw [upd_ne _ _ e] at hy
      have := h.rel _ _ hy
      injection this with this
      exact absurd this.symm e
    · have e : a ≠ t := fun e => by rw [e, upd_same] at hy; cases hy
      rw [upd_ne _ _ e] at hy
      rw [k3, k4 a haq]
      exact h.out _ _ hy haq
  by_cases p13 : x.pc = 1 ∨ x.pc = 3
  · by_cases hz : nx ws t = 0
    · rcases p13 with e | e
      · have hu : stp true 1 n x ws = ⟨{ x with pc := 2 }, ws, false, 0⟩ := by
          obtain ⟨lock, node, pc, other, ended⟩ := x
          dsimp only at s1 s2 s3 e ⊢
          subst s1 s2 s3 e
          rw [stpR1 1 n 0 (2 * (t : Int)) other ws (by omega) (by omega) (by rw [en]; exact hz)]
        rw [hu]
        exact stepOk_on rfl s3 rfl ⟨some t, h.frameOwn hP ⟨s1, s2, s3⟩ (by show (1 : Int) ≤ 2; omega) (by show (2 : Int) ≤ 4; omega) (fun e => (by cases e)) (fun e => (by cases e))⟩
      · have hu : stp true 1 n x ws = ⟨x, ws, true, 0⟩ := by
          obtain ⟨lock, node, pc, other, ended⟩ := x
          dsimp only at s1 s2 s3 e ⊢
          subst s1 s2 s3 e
          rw [stpR3w 1 n 0 (2 * (t : Int)) other ws (by omega) (by omega) (by rw [en]; exact hz)]
        rw [hu]
        exact stepOk_on rfl s3 rfl ⟨some t, h.frameOwn hP ⟨s1, s2, s3⟩ p1 p4 p3 pk⟩
    · have hu : stp true 1 n x ws = ⟨{ x with other := nx ws t, pc := 4 }, ws, false, 0⟩ := by
        obtain ⟨lock, node, pc, other, ended⟩ := x
        dsimp only at s1 s2 s3 p13 ⊢
        subst s1 s2 s3
        rw [stpR13 1 n 0 (2 * (t : Int)) other ws pc p13 (by omega) (by omega) (by rw [en]; exact hz)]
        rw [en]
        rfl
      rw [hu]
      refine stepOk_on rfl s3 rfl ⟨some t, h.frameOwn hP ⟨s1, s2, s3⟩ (by show (1 : Int) ≤ 4; omega) (Int.le_refl 4) (fun e => (by cases e)) (fun _ => ?_)⟩
      cases q with
      | nil => exact absurd hL hz
      | cons s r =>
        obtain ⟨⟨y, l1, _, l3⟩, _⟩ := hL
        rcases l3 with ⟨_, _, h0⟩ | ⟨l4, l5⟩
        · exact absurd h0 hz
        · exact ⟨s, r, y, rfl, l5, l1, l4⟩
  · by_cases p2 : x.pc = 2
    · by_cases hq : q = []
      · subst hq
        have hz : ws.getD 0 0 = 2 * (t : Int) + 1 := h.lock
        have hu : stp true 1 n x ws = ⟨{ x with ended := true }, ws.set 0 0, false, 0⟩ := by
          obtain ⟨lock, node, pc, other, ended⟩ := x
          dsimp only at s1 s2 s3 p2 ⊢
          subst s1 s2 s3 p2
          rw [stpR2 1 n 0 (2 * (t : Int)) other ws (by omega) (by omega) hz]
          rfl
        rw [hu]
        refine ⟨rfl, fun e => (by cases e), fun _ _ => ⟨none, fin _ (by simp) (getD_set_eq _ _ (by omega)) (fun s => nx_set _ _ (by omega)) (fun s _ => wa_set _ _ (by omega)) (fun s r e => by cases e)⟩, fun _ e => (by cases e)⟩
      · have hz : ws.getD 0 0 ≠ 2 * (t : Int) + 1 := by
          rw [h.lock]
          cases q with
          | nil => exact absurd rfl hq
          | cons s r =>
            have := lastOf_mem s r
            simp only [lockOf, lastOf]
            intro e
            have e2 : lastOf s r = t := by omega
            rw [e2] at this
            exact m1 this
        have hu : stp true 1 n x ws = ⟨{ x with pc := 3 }, ws, false, 0⟩ := by
          obtain ⟨lock, node, pc, other, ended⟩ := x
          dsimp only at s1 s2 s3 p2 ⊢
          subst s1 s2 s3 p2
          rw [stpR2n 1 n 0 (2 * (t : Int)) other ws (by omega) (by omega) hz]
        rw [hu]
        exact stepOk_on rfl s3 rfl ⟨some t, h.frameOwn hP ⟨s1, s2, s3⟩ (by show (1 : Int) ≤ 3; omega) (by show (3 : Int) ≤ 4; omega) (fun _ => hq) (fun e => (by cases e))⟩
    · have e4 : x.pc = 4 := by omega
      obtain ⟨s, r, y, rfl, k2, k3, k4⟩ := pk e4
      have hsn : s < n := h.lt s (by simp)
      have hu : stp true 1 n x ws = ⟨{ x with ended := true }, ws.set (2 + 6 * s) 0, false, 0⟩ := by
        obtain ⟨lock, node, pc, other, ended⟩ := x
        dsimp only at s1 s2 s3 e4 k2 ⊢
        subst s1 s2 s3 e4 k2
        rw [stpR4 1 n 0 (2 * (t : Int)) (2 * (s : Int) + 1) ws (by omega) (by omega) (by omega)]
        rw [show (1 : Int) + 3 * (2 * (s : Int) + 1 - 1) + 1 = 1 + 3 * (2 * (s : Int)) + 1 by omega, ew]
      rw [hu]
      refine ⟨rfl, fun e => (by cases e), fun _ _ => ⟨none, fin _ (by simp) ?_ (fun s => nx_set _ _ (by omega)) (fun a ha => wa_set _ _ (fun e => ha ?_)) (fun s' r' e => ?_)⟩, fun _ e => (by cases e)⟩
      · dsimp only
        rw [getD_set_ne _ _ (by omega), h.lock]
        rfl
      · have : s = a := by omega
        rw [this]
        simp
      · injection e with e1 e2
        subst e1 e2
        refine ⟨⟨y, k3, k4⟩, getD_set_eq _ _ (by omega), fun a ha => wa_set _ _ (fun e => (List.nodup_cons.1 m2).1 ?_)⟩
        have : s = a := by omega
        rw [this]
        exact ha
theorem Inv.step (h : Inv n P hs ws q o) (hP : P t = some (b, x)) : StepOk n P hs ws q t b (stp b 1 n x ws) := by
  cases b
  · exact h.stepA hP
  · exact h.stepR hP
theorem wtA (h : x.pc = 1 ∨ x.pc = 2 ∨ x.pc = 3 ∨ x.pc = 4) : (stp false 1 n x ws).wt = false := by
  rw [stp_A]
  unfold stpA
  (repeat' split) <;> first | rfl | omega
theorem wtR (h : x.pc = 1 ∨ x.pc = 2 ∨ x.pc = 4) : (stp true 1 n x ws).wt = false := by
  rw [stp_R]
  unfold stpR
  (repeat' split) <;> first | rfl | omega
theorem Inv.works (h : Inv n P hs ws q o) (hf : ∀ s, hs s = false) (hP : P t = some (b, x)) : ∃ s c y, s < n ∧ P s = some (c, y) ∧ (stp c 1 n y ws).wt = false := by
  have en : ∀ (a : Nat), (1 + 3 * (2 * (a : Int))).toNat = 1 + 6 * a := fun a => by omega
  have ew : ∀ (a : Nat), (1 + 3 * (2 * (a : Int)) + 1).toNat = 2 + 6 * a := fun a => by omega
  have hl := h.len
  cases o with
  | none =>
    cases q with
    | nil =>
      cases b
      · refine ⟨t, false, x, (h.shape _ _ _ hP).1, hP, wtA ?_⟩
        rcases h.out t x hP (by simp) with h1 | ⟨h1, _⟩ | ⟨h1, _⟩
        · exact .inl h1
        · exact .inr (.inl h1)
        · exact .inr (.inr (.inl h1))
      · have := h.rel t x hP
        cases this
    | cons s r =>
      obtain ⟨_, y, h1, h2, h3⟩ := h.free rfl s r rfl
      obtain ⟨hs, s1, s2, s3⟩ := h.shape _ _ _ h1
      refine ⟨s, false, y, hs, h1, ?_⟩
      obtain ⟨lock, node, pc, other, ended⟩ := y
      dsimp only at s1 s2 s3 h2
      subst s1 s2 s3 h2
      rw [stpA5 1 n 0 (2 * (s : Int)) other ws (by omega) (by omega) (by rw [ew]; exact h3)]
  | some a =>
    obtain ⟨hL, h2⟩ := h.own a rfl
    rcases h2 with ⟨_, e⟩ | ⟨y, h1, p1, p4, p3, _⟩
    · rw [hf a] at e; cases e
    obtain ⟨ha, s1, s2, s3⟩ := h.shape _ _ _ h1
    by_cases e : y.pc = 3
    · by_cases hz : nx ws a = 0
      · cases q with
        | nil => exact absurd rfl (p3 e)
        | cons s r =>
          obtain ⟨⟨z, l1, _, l3⟩, _⟩ := hL
          rcases l3 with ⟨l4, _⟩ | ⟨_, l5⟩
          · exact ⟨s, false, z, (h.shape _ _ _ l1).1, l1, wtA (.inr (.inr (.inr l4)))⟩
          · omega
      · refine ⟨a, true, y, ha, h1, ?_⟩
        obtain ⟨lock, node, pc, other, ended⟩ := y
        dsimp only at s1 s2 s3 e
        subst s1 s2 s3 e
        rw [stpR13 1 n 0 (2 * (a : Int)) other ws 3 (.inr rfl) (by omega) (by omega) (by rw [en]; exact hz)]
    · exact ⟨a, true, y, ha, h1, wtR (by omega)⟩
theorem Inv.begin (h : Inv n P hs ws q o) (ht : t < n) (hP : P t = none) : Inv n (upd P t (some (hs t, ⟨0, 2 * (t : Int), 1, 0, false⟩))) (upd hs t false) ws q o := by
  have hneq : ∀ s ∈ q, s ≠ t := fun s hs e => by
    obtain ⟨y, hy, _⟩ := h.inq hs
    rw [e, hP] at hy
    cases hy
  refine ⟨h.len, h.nd, h.lt, h.lock, fun s b y hy => ?_, fun s hs' => ?_, fun p hp => ⟨Lk_frame (h.own p hp).1 (fun s hs => ⟨upd_ne _ _ (hneq s hs), rfl⟩) (fun _ _ => rfl), ?_⟩, fun hp s r hr => ?_, fun s y hy => ?_, fun s y hy hsq => ?_⟩
  · by_cases e : s = t
    · subst e
      rw [upd_same] at hy
      injection hy with hy
      injection hy with _ hy
      subst hy
      exact ⟨ht, rfl, rfl, rfl⟩
    · rw [upd_ne _ _ e] at hy
      exact h.shape _ _ _ hy
  · by_cases e : s = t
    · subst e
      rw [upd_same] at hs'
      cases hs'
    · rw [upd_ne _ _ e] at hs'
      have k := h.hsO s hs'
      exact ⟨k.1, by rw [upd_ne _ _ e]; exact k.2⟩
  · by_cases e : p = t
    · subst e
      rcases (h.own p hp).2 with ⟨_, h2⟩ | ⟨y, h1, _⟩
      · exact .inr ⟨_, by rw [upd_same, h2], by show (1 : Int) ≤ 1; omega, by show (1 : Int) ≤ 4; omega, fun e => (by cases e), fun e => (by cases e)⟩
      · rw [hP] at h1; cases h1
    · rw [upd_ne _ _ e, upd_ne _ _ e]
      rcases (h.own p hp).2 with h2 | ⟨y, h3, h4, h5, h6, h7⟩
      · exact .inl h2
      · refine .inr ⟨y, h3, h4, h5, h6, fun e4 => ?_⟩
        obtain ⟨s, r, z, k1, k2, k3, k4⟩ := h7 e4
        exact ⟨s, r, z, k1, k2, by rw [upd_ne _ _ (hneq s (by rw [k1]; simp))]; exact k3, k4⟩
  · obtain ⟨h1, y, h2, h3, h4⟩ := h.free hp s r hr
    exact ⟨Lk_frame h1 (fun a ha => ⟨upd_ne _ _ (hneq a (by rw [hr]; simp [ha])), rfl⟩) (fun _ _ => rfl), y, by rw [upd_ne _ _ (hneq s (by rw [hr]; simp))]; exact h2, h3, h4⟩
  · by_cases e : s = t
    · subst e
      rw [upd_same] at hy
      injection hy with hy
      injection hy with hy _
      exact (h.hsO s hy).1
    · rw [upd_ne _ _ e] at hy
      exact h.rel _ _ hy
  · by_cases e : s = t
    · subst e
      rw [upd_same] at hy
      injection hy with hy
      injection hy with _ hy
      subst hy
      exact .inl rfl
    · rw [upd_ne _ _ e] at hy
      exact h.out _ _ hy hsq
theorem Inv.new (n : Nat) : Inv n (fun _ => none) (fun _ => false) (List.replicate (1 + 6 * n) 0) [] none :=
  ⟨by simp, by simp, fun t h => (by cases h), by simp only [lockOf, List.getD_eq_getElem?_getD, List.getElem?_replicate]; split <;> rfl, fun t b x h => (by cases h), fun t h => (by cases h), fun t h => (by cases h), fun _ s r h => (by cases h), fun t x h => (by cases h), fun t x h => (by cases h)⟩
end
end Go.Proofs.Ytmlhdcpahfgckaa
