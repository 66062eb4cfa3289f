/-
  Contracts of the law's helpers over programs: new programs that are refused, begin, steps, waits, word.
-/
import Derived.Test.YtmlhdcpahfgckaaMcs8
import Derived.Test.YtmlhdcpahfgckaaMcs9
namespace Go.Proofs.Ytmlhdcpahfgckaa
open Go.RowKit

set_option maxRecDepth 100000 in
set_option maxHeartbeats 1000000 in
theorem mmade_bad (nb : Nat) (B t lock node : Int) (w : World) (hn : NdAt w nb B t) (hk : ¬ okRun B t lock node) :
    Calls Try.prog 33 #[.pointer (some ⟨nb, 0, none⟩), .int .i64 lock, .int .i64 node] w fun e w' => e = .returned (.tuple #[run6 (.pointer none) 0 0 0 0 false, .int .i64 2]) ∧ Below w.heap.size w w' := by
  unfold okRun at hk
  have n1 := hn.t1
  have n2 := hn.t64
  have n3 := hn.B0
  have n4 := hn.top
  have tz : (t == 0) = false := by simp; omega
  have hkk := Lib.hid hk
  clear hk
  by_cases ho : 0 ≤ node ∧ node < t * 2
  all_goals
    by_cases d1 : lock < 0
    all_goals
      by_cases d2 : 65536 ≤ lock
      all_goals
        by_cases hi : B ≤ lock
        all_goals
          by_cases hj : lock < B + 6 * t
          all_goals first
            | (exfalso; have := hkk.out; omega)
            | (go_enter Try.func33, Try.ntmps33
               go_wp2_with (first | (go_at_call 42; refine (threads_ok nb t _ (hn.below (by (repeat' (first | (with_reducible exact Below.refl _ _) | (with_reducible assumption) | (with_reducible refine Below.alloc ?_ ?_ _) | (with_reducible refine Below.drew ?_) | (with_reducible refine below_drewN ?_ _) | (with_reducible refine Below.setCell ?_ ?_ _) | (with_reducible refine Below.trans ?_ (Below.mono (by assumption) ?_)) | (first | go_size | (with_reducible exact Below.size (by assumption)) | (with_reducible exact Nat.le_trans (Below.size (by assumption)) (Below.size (by assumption))) | (refine Nat.le_trans (Below.size (by assumption)) ?_; go_size)))))).c1 n1 n2).mono ?_; rintro e w' ⟨rfl, rfl⟩) | (go_at_call 43; refine (base_ok nb B t _ (hn.below (by (repeat' (first | (with_reducible exact Below.refl _ _) | (with_reducible assumption) | (with_reducible refine Below.alloc ?_ ?_ _) | (with_reducible refine Below.drew ?_) | (with_reducible refine below_drewN ?_ _) | (with_reducible refine Below.setCell ?_ ?_ _) | (with_reducible refine Below.trans ?_ (Below.mono (by assumption) ?_)) | (first | go_size | (with_reducible exact Below.size (by assumption)) | (with_reducible exact Nat.le_trans (Below.size (by assumption)) (Below.size (by assumption))) | (refine Nat.le_trans (Below.size (by assumption)) ?_; go_size)))))).c0 (hn.below (by (repeat' (first | (with_reducible exact Below.refl _ _) | (with_reducible assumption) | (with_reducible refine Below.alloc ?_ ?_ _) | (with_reducible refine Below.drew ?_) | (with_reducible refine below_drewN ?_ _) | (with_reducible refine Below.setCell ?_ ?_ _) | (with_reducible refine Below.trans ?_ (Below.mono (by assumption) ?_)) | (first | go_size | (with_reducible exact Below.size (by assumption)) | (with_reducible exact Nat.le_trans (Below.size (by assumption)) (Below.size (by assumption))) | (refine Nat.le_trans (Below.size (by assumption)) ?_; go_size)))))).c1 n1).mono ?_; rintro e w' ⟨rfl, rfl⟩) | (go_at_call 44; refine (len_ok nb t _ (hn.below (by (repeat' (first | (with_reducible exact Below.refl _ _) | (with_reducible assumption) | (with_reducible refine Below.alloc ?_ ?_ _) | (with_reducible refine Below.drew ?_) | (with_reducible refine below_drewN ?_ _) | (with_reducible refine Below.setCell ?_ ?_ _) | (with_reducible refine Below.trans ?_ (Below.mono (by assumption) ?_)) | (first | go_size | (with_reducible exact Below.size (by assumption)) | (with_reducible exact Nat.le_trans (Below.size (by assumption)) (Below.size (by assumption))) | (refine Nat.le_trans (Below.size (by assumption)) ?_; go_size)))))).c1 n1 n2).mono ?_; rintro e w' ⟨rfl, rfl⟩) | (go_at_call 45; refine (owner_ok nb t _ node (hn.below (by (repeat' (first | (with_reducible exact Below.refl _ _) | (with_reducible assumption) | (with_reducible refine Below.alloc ?_ ?_ _) | (with_reducible refine Below.drew ?_) | (with_reducible refine below_drewN ?_ _) | (with_reducible refine Below.setCell ?_ ?_ _) | (with_reducible refine Below.trans ?_ (Below.mono (by assumption) ?_)) | (first | go_size | (with_reducible exact Below.size (by assumption)) | (with_reducible exact Nat.le_trans (Below.size (by assumption)) (Below.size (by assumption))) | (refine Nat.le_trans (Below.size (by assumption)) ?_; go_size)))))).c1 n1 n2 ho.1 ho.2).mono ?_; rintro e w' ⟨rfl, rfl⟩) | (go_at_call 45; refine (owner_bad nb t _ node (hn.below (by (repeat' (first | (with_reducible exact Below.refl _ _) | (with_reducible assumption) | (with_reducible refine Below.alloc ?_ ?_ _) | (with_reducible refine Below.drew ?_) | (with_reducible refine below_drewN ?_ _) | (with_reducible refine Below.setCell ?_ ?_ _) | (with_reducible refine Below.trans ?_ (Below.mono (by assumption) ?_)) | (first | go_size | (with_reducible exact Below.size (by assumption)) | (with_reducible exact Nat.le_trans (Below.size (by assumption)) (Below.size (by assumption))) | (refine Nat.le_trans (Below.size (by assumption)) ?_; go_size)))))).c1 n1 n2 (by omega)).mono ?_; rintro e w' ⟨rfl, rfl⟩))
               refine bodyPost_ret (v := .tuple #[run6 (.pointer none) 0 0 0 0 false, .int .i64 2]) (by simp [results, go_sem]) rfl ?_
               exact ⟨rfl, by (repeat' (first | (with_reducible exact Below.refl _ _) | (with_reducible assumption) | (with_reducible refine Below.alloc ?_ ?_ _) | (with_reducible refine Below.drew ?_) | (with_reducible refine below_drewN ?_ _) | (with_reducible refine Below.setCell ?_ ?_ _) | (with_reducible refine Below.trans ?_ (Below.mono (by assumption) ?_)) | (first | go_size | (with_reducible exact Below.size (by assumption)) | (with_reducible exact Nat.le_trans (Below.size (by assumption)) (Below.size (by assumption))) | (refine Nat.le_trans (Below.size (by assumption)) ?_; go_size))))⟩)

def stpN (bk : Bool) (B t : Int) : Nat → Rn → List Int → Option (Rn × List Int)
  | 0, x, ws => some (x, ws)
  | k + 1, x, ws => if (stp bk B t x ws).wt = false ∧ (stp bk B t x ws).e = 0 then stpN bk B t k (stp bk B t x ws).x (stp bk B t x ws).ws else none
theorem stpN_succ {bk : Bool} {B t : Int} {k : Nat} {x x' : Rn} {ws ws' : List Int} (h : stpN bk B t (k + 1) x ws = some (x', ws')) :
    (stp bk B t x ws).wt = false ∧ (stp bk B t x ws).e = 0 ∧ stpN bk B t k (stp bk B t x ws).x (stp bk B t x ws).ws = some (x', ws') := by
  unfold stpN at h
  split at h
  · rename_i h0; exact ⟨h0.1, h0.2, h⟩
  · cases h
/-- what stands: as Sit, and the step is one of the program's -/
structure Sat (w : World) (bk : Bool) (r nb b g c : Nat) (B t : Int) (x : Rn) (ws : List Int) : Prop where
  s : Sit w r nb b g c (Tp bk) B t x ws
  p : pcOk bk x
theorem Sat.below {w w' : World} {bk : Bool} {r nb b g c : Nat} {B t : Int} {x : Rn} {ws : List Int} (h : Sat w bk r nb b g c B t x ws) (hb : Below w.heap.size w w') : Sat w' bk r nb b g c B t x ws := ⟨h.s.below hb, h.p⟩
def SaP (w : World) (bk : Bool) (r nb b g c : Nat) (B t : Int) (x : Rn) (ws : List Int) (v : Value) (e : Ending) (w' : World) : Prop :=
  e = .returned v ∧ Sat w' bk r nb b g c B t x ws ∧ Ch (fun j => j = r ∨ j = g) w w'
theorem beginP_def : True := trivial
def BeginP (bk : Bool) (nb : Nat) (x : Rn) (w : World) (e : Ending) (w' : World) : Prop := ∃ r, e = .returned (.tuple #[progI bk r, .int .i64 0]) ∧ w.heap.size ≤ r ∧ RnAt w' r nb (Tp bk) x ∧ Below w.heap.size w w'

/-! ### Acquire -/
theorem nil_Step_Acquire (r : Nat) (w : World) : (nilAhead 242 59 (.pointer (some ⟨r, 0, none⟩)) "Step").run Try.prog w = .ok (some false) w := by kernel_rfl
theorem method_Step_Acquire (r : Nat) (w : World) : (method 242 59 (.pointer (some ⟨r, 0, none⟩)) "Step").run Try.prog w = .ok (72, .pointer (some ⟨r, 0, none⟩)) w := by kernel_rfl
theorem nil_Done_Acquire (r : Nat) (w : World) : (nilAhead 242 59 (.pointer (some ⟨r, 0, none⟩)) "Done").run Try.prog w = .ok (some false) w := by kernel_rfl
theorem method_Done_Acquire (r : Nat) (w : World) : (method 242 59 (.pointer (some ⟨r, 0, none⟩)) "Done").run Try.prog w = .ok (70, .pointer (some ⟨r, 0, none⟩)) w := by kernel_rfl
theorem astep' (r nb b g c : Nat) (B t : Int) (x : Rn) (ws : List Int) (w : World) (h : Sat w false r nb b g c B t x ws) :
    Calls Try.prog 72 #[.pointer (some ⟨r, 0, none⟩), memI b] w (SaP w false r nb b g c B t (stp false B t x ws).x (stp false B t x ws).ws (.tuple #[.bool (stp false B t x ws).wt, .int .i64 (stp false B t x ws).e])) :=
  (astep r nb b g c B t x ws w h.s h.p).mono fun _ _ ⟨h1, h2, h3⟩ => ⟨h1, ⟨h2, stp_pc B t x ws false h.p⟩, h3⟩
set_option maxRecDepth 100000 in
set_option maxHeartbeats 1000000 in
theorem steps_Acquire (r nb b g c : Nat) (B t : Int) (x x' : Rn) (ws ws' : List Int) (many : Nat) (dn : Bool) (w : World) (h : Sat w false r nb b g c B t x ws) (hN : stpN false B t many x ws = some (x', ws')) (hm : many ≤ 1000) :
    Calls Try.prog 14 #[.iface 59 (.pointer (some ⟨r, 0, none⟩)), memI b, .int .i64 many, .bool dn] w (SaP w false r nb b g c B t x' ws' (.bool (x'.ended == dn))) := by
  have z1 := nil_Step_Acquire r
  have z2 := method_Step_Acquire r
  have z3 := nil_Done_Acquire r
  have z4 := method_Done_Acquire r
  go_enter Try.func14, Try.ntmps14
  go_wp2_with fail
  go_loopw [9] (fun v wr => ∃ (k : Nat) (x1 : Rn) (ws1 : List Int), v = .int .i64 k ∧ k ≤ many ∧ Sat wr false r nb b g c B t x1 ws1 ∧ stpN false B t (many - k) x1 ws1 = some (x', ws') ∧ Ch (fun j => j = r ∨ j = g) w wr) (fun v _ => many - (intOf v).toNat)
  case atStart => exact ⟨0, x, ws, rfl, by omega, h, hN, Ch.refl _ _⟩
  case round =>
    obtain ⟨k, x1, ws1, rfl, hk, hS, hR, hC⟩ := hrel
    by_cases hlt : k < many
    · obtain ⟨q, hq⟩ : ∃ q, many - k = q + 1 := ⟨many - k - 1, by omega⟩
      rw [hq] at hR
      obtain ⟨r1, r2, r3⟩ := stpN_succ hR
      have hst := astep' r nb b g c B t x1 ws1 _ hS
      rw [r1, r2] at hst
      have HR := Lib.hid r3
      have HQ := Lib.hid hq
      clear r1 r2 r3 hR hq
      go_wp2_with (go_at_call 72; refine hst.mono ?_; rintro e w2 ⟨rfl, hS2, hC2⟩)
      go_roundw
      case rel => exact ⟨k + 1, _, _, by go_num, by omega, hS2, by rw [show many - (k + 1) = q by have := HQ.out; omega]; exact HR.out, hC.trans hC2 (fun _ _ e => e)⟩
      case measure => simp [intOf]; omega
    · obtain rfl : k = many := by omega
      rw [Nat.sub_self] at hR
      unfold stpN at hR
      injection hR with hR
      injection hR with hx hw
      subst hx hw
      go_wp2_with (go_at_call 70; refine (adone r nb x1 _ hS.s.run).mono ?_; rintro e w2 ⟨rfl, rfl⟩)
      go_ret
      exact ⟨rfl, hS, hC⟩
set_option maxRecDepth 100000 in
theorem waits_Acquire (r nb b g c : Nat) (B t : Int) (x : Rn) (ws : List Int) (w : World) (h : Sat w false r nb b g c B t x ws) (h1 : (stp false B t x ws).wt = true) (h2 : (stp false B t x ws).e = 0) (h3 : (stp false B t x ws).x = x) (h4 : (stp false B t x ws).ws = ws) (h5 : x.ended = false) :
    Calls Try.prog 21 #[.iface 59 (.pointer (some ⟨r, 0, none⟩)), memI b] w (SaP w false r nb b g c B t x ws (.bool true)) := by
  have z1 := nil_Step_Acquire r
  have z2 := method_Step_Acquire r
  have z3 := nil_Done_Acquire r
  have z4 := method_Done_Acquire r
  have hst := fun W (hW : Sat W false r nb b g c B t x ws) => astep' r nb b g c B t x ws W hW
  rw [h1, h2, h3, h4] at hst
  have hdn := fun W (hW : RnAt W r nb 67 x) => adone r nb x W hW
  rw [h5] at hdn
  clear h1 h2 h3 h4 h5
  go_enter Try.func21, Try.ntmps21
  go_wp2_with (first | (go_at_call 72; refine (hst _ h).mono ?_; rintro e w2 ⟨rfl, hS2, hC2⟩) | (go_at_call 70; refine (hdn _ hS2.s.run).mono ?_; rintro e w3 ⟨rfl, rfl⟩))
  go_ret
  exact ⟨rfl, hS2, hC2⟩

/-! ### Release -/
theorem nil_Step_Release (r : Nat) (w : World) : (nilAhead 242 63 (.pointer (some ⟨r, 0, none⟩)) "Step").run Try.prog w = .ok (some false) w := by kernel_rfl
theorem method_Step_Release (r : Nat) (w : World) : (method 242 63 (.pointer (some ⟨r, 0, none⟩)) "Step").run Try.prog w = .ok (85, .pointer (some ⟨r, 0, none⟩)) w := by kernel_rfl
theorem nil_Done_Release (r : Nat) (w : World) : (nilAhead 242 63 (.pointer (some ⟨r, 0, none⟩)) "Done").run Try.prog w = .ok (some false) w := by kernel_rfl
theorem method_Done_Release (r : Nat) (w : World) : (method 242 63 (.pointer (some ⟨r, 0, none⟩)) "Done").run Try.prog w = .ok (83, .pointer (some ⟨r, 0, none⟩)) w := by kernel_rfl
theorem rstep' (r nb b g c : Nat) (B t : Int) (x : Rn) (ws : List Int) (w : World) (h : Sat w true r nb b g c B t x ws) :
    Calls Try.prog 85 #[.pointer (some ⟨r, 0, none⟩), memI b] w (SaP w true r nb b g c B t (stp true B t x ws).x (stp true B t x ws).ws (.tuple #[.bool (stp true B t x ws).wt, .int .i64 (stp true B t x ws).e])) :=
  (rstep r nb b g c B t x ws w h.s h.p).mono fun _ _ ⟨h1, h2, h3⟩ => ⟨h1, ⟨h2, stp_pc B t x ws true h.p⟩, h3⟩
set_option maxRecDepth 100000 in
set_option maxHeartbeats 1000000 in
theorem steps_Release (r nb b g c : Nat) (B t : Int) (x x' : Rn) (ws ws' : List Int) (many : Nat) (dn : Bool) (w : World) (h : Sat w true r nb b g c B t x ws) (hN : stpN true B t many x ws = some (x', ws')) (hm : many ≤ 1000) :
    Calls Try.prog 14 #[.iface 63 (.pointer (some ⟨r, 0, none⟩)), memI b, .int .i64 many, .bool dn] w (SaP w true r nb b g c B t x' ws' (.bool (x'.ended == dn))) := by
  have z1 := nil_Step_Release r
  have z2 := method_Step_Release r
  have z3 := nil_Done_Release r
  have z4 := method_Done_Release r
  go_enter Try.func14, Try.ntmps14
  go_wp2_with fail
  go_loopw [9] (fun v wr => ∃ (k : Nat) (x1 : Rn) (ws1 : List Int), v = .int .i64 k ∧ k ≤ many ∧ Sat wr true r nb b g c B t x1 ws1 ∧ stpN true B t (many - k) x1 ws1 = some (x', ws') ∧ Ch (fun j => j = r ∨ j = g) w wr) (fun v _ => many - (intOf v).toNat)
  case atStart => exact ⟨0, x, ws, rfl, by omega, h, hN, Ch.refl _ _⟩
  case round =>
    obtain ⟨k, x1, ws1, rfl, hk, hS, hR, hC⟩ := hrel
    by_cases hlt : k < many
    · obtain ⟨q, hq⟩ : ∃ q, many - k = q + 1 := ⟨many - k - 1, by omega⟩
      rw [hq] at hR
      obtain ⟨r1, r2, r3⟩ := stpN_succ hR
      have hst := rstep' r nb b g c B t x1 ws1 _ hS
      rw [r1, r2] at hst
      have HR := Lib.hid r3
      have HQ := Lib.hid hq
      clear r1 r2 r3 hR hq
      go_wp2_with (go_at_call 85; refine hst.mono ?_; rintro e w2 ⟨rfl, hS2, hC2⟩)
      go_roundw
      case rel => exact ⟨k + 1, _, _, by go_num, by omega, hS2, by rw [show many - (k + 1) = q by have := HQ.out; omega]; exact HR.out, hC.trans hC2 (fun _ _ e => e)⟩
      case measure => simp [intOf]; omega
    · obtain rfl : k = many := by omega
      rw [Nat.sub_self] at hR
      unfold stpN at hR
      injection hR with hR
      injection hR with hx hw
      subst hx hw
      go_wp2_with (go_at_call 83; refine (rdone r nb x1 _ hS.s.run).mono ?_; rintro e w2 ⟨rfl, rfl⟩)
      go_ret
      exact ⟨rfl, hS, hC⟩
set_option maxRecDepth 100000 in
theorem waits_Release (r nb b g c : Nat) (B t : Int) (x : Rn) (ws : List Int) (w : World) (h : Sat w true r nb b g c B t x ws) (h1 : (stp true B t x ws).wt = true) (h2 : (stp true B t x ws).e = 0) (h3 : (stp true B t x ws).x = x) (h4 : (stp true B t x ws).ws = ws) (h5 : x.ended = false) :
    Calls Try.prog 21 #[.iface 63 (.pointer (some ⟨r, 0, none⟩)), memI b] w (SaP w true r nb b g c B t x ws (.bool true)) := by
  have z1 := nil_Step_Release r
  have z2 := method_Step_Release r
  have z3 := nil_Done_Release r
  have z4 := method_Done_Release r
  have hst := fun W (hW : Sat W true r nb b g c B t x ws) => rstep' r nb b g c B t x ws W hW
  rw [h1, h2, h3, h4] at hst
  have hdn := fun W (hW : RnAt W r nb 68 x) => rdone r nb x W hW
  rw [h5] at hdn
  clear h1 h2 h3 h4 h5
  go_enter Try.func21, Try.ntmps21
  go_wp2_with (first | (go_at_call 85; refine (hst _ h).mono ?_; rintro e w2 ⟨rfl, hS2, hC2⟩) | (go_at_call 83; refine (hdn _ hS2.s.run).mono ?_; rintro e w3 ⟨rfl, rfl⟩))
  go_ret
  exact ⟨rfl, hS2, hC2⟩

set_option maxRecDepth 100000 in
theorem begin_ok (nb : Nat) (B t lock node : Int) (bk : Bool) (w : World) (hn : NdAt w nb B t) (hk : okRun B t lock node) :
    Calls Try.prog 13 #[.pointer (some ⟨nb, 0, none⟩), .int .i64 lock, .int .i64 node, .bool bk] w (BeginP bk nb ⟨lock, node, 1, 0, false⟩ w) := by
  cases bk
  · go_enter Try.func13, Try.ntmps13
    go_wp2_with (go_at_call 26; refine (new_Acquire_ok nb B t lock node _ (hn.below (by (repeat' (first | (with_reducible exact Below.refl _ _) | (with_reducible assumption) | (with_reducible refine Below.alloc ?_ ?_ _) | (with_reducible refine Below.drew ?_) | (with_reducible refine below_drewN ?_ _) | (with_reducible refine Below.setCell ?_ ?_ _) | (with_reducible refine Below.trans ?_ (Below.mono (by assumption) ?_)) | (first | go_size | (with_reducible exact Below.size (by assumption)) | (with_reducible exact Nat.le_trans (Below.size (by assumption)) (Below.size (by assumption))) | (refine Nat.le_trans (Below.size (by assumption)) ?_; go_size)))))) hk).mono ?_; rintro e w2 ⟨r, rfl, hr, hR, hB⟩)
    go_ret2
    exact ⟨r, rfl, hr, hR, hB⟩
  · go_enter Try.func13, Try.ntmps13
    go_wp2_with (go_at_call 25; refine (new_Release_ok nb B t lock node _ (hn.below (by (repeat' (first | (with_reducible exact Below.refl _ _) | (with_reducible assumption) | (with_reducible refine Below.alloc ?_ ?_ _) | (with_reducible refine Below.drew ?_) | (with_reducible refine below_drewN ?_ _) | (with_reducible refine Below.setCell ?_ ?_ _) | (with_reducible refine Below.trans ?_ (Below.mono (by assumption) ?_)) | (first | go_size | (with_reducible exact Below.size (by assumption)) | (with_reducible exact Nat.le_trans (Below.size (by assumption)) (Below.size (by assumption))) | (refine Nat.le_trans (Below.size (by assumption)) ?_; go_size)))))) hk).mono ?_; rintro e w2 ⟨r, rfl, hr, hR, hB⟩)
    go_ret2
    exact ⟨r, rfl, hr, hR, hB⟩
set_option maxRecDepth 100000 in
theorem begin_bad (nb : Nat) (B t lock node : Int) (bk : Bool) (w : World) (hn : NdAt w nb B t) (hk : ¬ okRun B t lock node) :
    Calls Try.prog 13 #[.pointer (some ⟨nb, 0, none⟩), .int .i64 lock, .int .i64 node, .bool bk] w fun e w' => e = .returned (.tuple #[.nilIface, .int .i64 2]) ∧ Below w.heap.size w w' := by
  have ha : ∀ W, NdAt W nb B t → Calls Try.prog 26 #[.pointer (some ⟨nb, 0, none⟩), .int .i64 lock, .int .i64 node] W fun e w' => e = .returned (.tuple #[.pointer none, .int .i64 2]) ∧ Below W.heap.size W w' := fun W hW => by
    go_enter Try.func26, Try.ntmps26
    go_wp2_with (go_at_call 33; refine (mmade_bad nb B t lock node _ (hW.below (by (repeat' (first | (with_reducible exact Below.refl _ _) | (with_reducible assumption) | (with_reducible refine Below.alloc ?_ ?_ _) | (with_reducible refine Below.drew ?_) | (with_reducible refine below_drewN ?_ _) | (with_reducible refine Below.setCell ?_ ?_ _) | (with_reducible refine Below.trans ?_ (Below.mono (by assumption) ?_)) | (first | go_size | (with_reducible exact Below.size (by assumption)) | (with_reducible exact Nat.le_trans (Below.size (by assumption)) (Below.size (by assumption))) | (refine Nat.le_trans (Below.size (by assumption)) ?_; go_size)))))) hk).mono ?_; rintro e w1 ⟨rfl, hb⟩)
    go_ret2
    exact ⟨rfl, by (repeat' (first | (with_reducible exact Below.refl _ _) | (with_reducible assumption) | (with_reducible refine Below.alloc ?_ ?_ _) | (with_reducible refine Below.drew ?_) | (with_reducible refine below_drewN ?_ _) | (with_reducible refine Below.setCell ?_ ?_ _) | (with_reducible refine Below.trans ?_ (Below.mono (by assumption) ?_)) | (first | go_size | (with_reducible exact Below.size (by assumption)) | (with_reducible exact Nat.le_trans (Below.size (by assumption)) (Below.size (by assumption))) | (refine Nat.le_trans (Below.size (by assumption)) ?_; go_size))))⟩
  have hr : ∀ W, NdAt W nb B t → Calls Try.prog 25 #[.pointer (some ⟨nb, 0, none⟩), .int .i64 lock, .int .i64 node] W fun e w' => e = .returned (.tuple #[.pointer none, .int .i64 2]) ∧ Below W.heap.size W w' := fun W hW => by
    go_enter Try.func25, Try.ntmps25
    go_wp2_with (go_at_call 33; refine (mmade_bad nb B t lock node _ (hW.below (by (repeat' (first | (with_reducible exact Below.refl _ _) | (with_reducible assumption) | (with_reducible refine Below.alloc ?_ ?_ _) | (with_reducible refine Below.drew ?_) | (with_reducible refine below_drewN ?_ _) | (with_reducible refine Below.setCell ?_ ?_ _) | (with_reducible refine Below.trans ?_ (Below.mono (by assumption) ?_)) | (first | go_size | (with_reducible exact Below.size (by assumption)) | (with_reducible exact Nat.le_trans (Below.size (by assumption)) (Below.size (by assumption))) | (refine Nat.le_trans (Below.size (by assumption)) ?_; go_size)))))) hk).mono ?_; rintro e w1 ⟨rfl, hb⟩)
    go_ret2
    exact ⟨rfl, by (repeat' (first | (with_reducible exact Below.refl _ _) | (with_reducible assumption) | (with_reducible refine Below.alloc ?_ ?_ _) | (with_reducible refine Below.drew ?_) | (with_reducible refine below_drewN ?_ _) | (with_reducible refine Below.setCell ?_ ?_ _) | (with_reducible refine Below.trans ?_ (Below.mono (by assumption) ?_)) | (first | go_size | (with_reducible exact Below.size (by assumption)) | (with_reducible exact Nat.le_trans (Below.size (by assumption)) (Below.size (by assumption))) | (refine Nat.le_trans (Below.size (by assumption)) ?_; go_size))))⟩
  cases bk
  · go_enter Try.func13, Try.ntmps13
    go_wp2_with (go_at_call 26; refine (ha _ (hn.below (by (repeat' (first | (with_reducible exact Below.refl _ _) | (with_reducible assumption) | (with_reducible refine Below.alloc ?_ ?_ _) | (with_reducible refine Below.drew ?_) | (with_reducible refine below_drewN ?_ _) | (with_reducible refine Below.setCell ?_ ?_ _) | (with_reducible refine Below.trans ?_ (Below.mono (by assumption) ?_)) | (first | go_size | (with_reducible exact Below.size (by assumption)) | (with_reducible exact Nat.le_trans (Below.size (by assumption)) (Below.size (by assumption))) | (refine Nat.le_trans (Below.size (by assumption)) ?_; go_size))))))).mono ?_; rintro e w2 ⟨rfl, hB⟩)
    go_ret2
    exact ⟨rfl, by (repeat' (first | (with_reducible exact Below.refl _ _) | (with_reducible assumption) | (with_reducible refine Below.alloc ?_ ?_ _) | (with_reducible refine Below.drew ?_) | (with_reducible refine below_drewN ?_ _) | (with_reducible refine Below.setCell ?_ ?_ _) | (with_reducible refine Below.trans ?_ (Below.mono (by assumption) ?_)) | (first | go_size | (with_reducible exact Below.size (by assumption)) | (with_reducible exact Nat.le_trans (Below.size (by assumption)) (Below.size (by assumption))) | (refine Nat.le_trans (Below.size (by assumption)) ?_; go_size))))⟩
  · go_enter Try.func13, Try.ntmps13
    go_wp2_with (go_at_call 25; refine (hr _ (hn.below (by (repeat' (first | (with_reducible exact Below.refl _ _) | (with_reducible assumption) | (with_reducible refine Below.alloc ?_ ?_ _) | (with_reducible refine Below.drew ?_) | (with_reducible refine below_drewN ?_ _) | (with_reducible refine Below.setCell ?_ ?_ _) | (with_reducible refine Below.trans ?_ (Below.mono (by assumption) ?_)) | (first | go_size | (with_reducible exact Below.size (by assumption)) | (with_reducible exact Nat.le_trans (Below.size (by assumption)) (Below.size (by assumption))) | (refine Nat.le_trans (Below.size (by assumption)) ?_; go_size))))))).mono ?_; rintro e w2 ⟨rfl, hB⟩)
    go_ret2
    exact ⟨rfl, by (repeat' (first | (with_reducible exact Below.refl _ _) | (with_reducible assumption) | (with_reducible refine Below.alloc ?_ ?_ _) | (with_reducible refine Below.drew ?_) | (with_reducible refine below_drewN ?_ _) | (with_reducible refine Below.setCell ?_ ?_ _) | (with_reducible refine Below.trans ?_ (Below.mono (by assumption) ?_)) | (first | go_size | (with_reducible exact Below.size (by assumption)) | (with_reducible exact Nat.le_trans (Below.size (by assumption)) (Below.size (by assumption))) | (refine Nat.le_trans (Below.size (by assumption)) ?_; go_size))))⟩
theorem steps_any (bk : Bool) (r nb b g c : Nat) (B t : Int) (x x' : Rn) (ws ws' : List Int) (many : Nat) (dn : Bool) (w : World) (h : Sat w bk r nb b g c B t x ws) (hN : stpN bk B t many x ws = some (x', ws')) (hm : many ≤ 1000) :
    Calls Try.prog 14 #[progI bk r, memI b, .int .i64 many, .bool dn] w (SaP w bk r nb b g c B t x' ws' (.bool (x'.ended == dn))) := by
  cases bk
  · exact steps_Acquire r nb b g c B t x x' ws ws' many dn w h hN hm
  · exact steps_Release r nb b g c B t x x' ws ws' many dn w h hN hm
theorem waits_any (bk : Bool) (r nb b g c : Nat) (B t : Int) (x : Rn) (ws : List Int) (w : World) (h : Sat w bk r nb b g c B t x ws) (h1 : (stp bk B t x ws).wt = true) (h2 : (stp bk B t x ws).e = 0) (h3 : (stp bk B t x ws).x = x) (h4 : (stp bk B t x ws).ws = ws) (h5 : x.ended = false) :
    Calls Try.prog 21 #[progI bk r, memI b] w (SaP w bk r nb b g c B t x ws (.bool true)) := by
  cases bk
  · exact waits_Acquire r nb b g c B t x ws w h h1 h2 h3 h4 h5
  · exact waits_Release r nb b g c B t x ws w h h1 h2 h3 h4 h5
theorem word_any (b g c : Nat) (ws : List Int) (i want : Int) (w : World) (h : MemAt w b g c ws) (hv : doB ws 1 i = want) (he : doE ws 1 i = 0) :
    Calls Try.prog 15 #[.pointer (some ⟨b, 0, none⟩), .int .i64 i, .int .u64 want] w (MPost w b g c ws (.bool true)) := by
  have hl := fun W (hW : MemAt W b g c ws) => mload_any b g c ws i W hW
  rw [hv, he] at hl
  clear hv he
  go_enter Try.func15, Try.ntmps15
  go_wp2_with (go_at_call 20; refine (hl _ (h.below (by (repeat' (first | (with_reducible exact Below.refl _ _) | (with_reducible assumption) | (with_reducible refine Below.alloc ?_ ?_ _) | (with_reducible refine Below.drew ?_) | (with_reducible refine below_drewN ?_ _) | (with_reducible refine Below.setCell ?_ ?_ _) | (with_reducible refine Below.trans ?_ (Below.mono (by assumption) ?_)) | (first | go_size | (with_reducible exact Below.size (by assumption)) | (with_reducible exact Nat.le_trans (Below.size (by assumption)) (Below.size (by assumption))) | (refine Nat.le_trans (Below.size (by assumption)) ?_; go_size))))))).mono ?_; rintro e w1 ⟨rfl, hm, hc⟩)
  go_ret
  exact mpost rfl hm hc (by (repeat' (first | (with_reducible exact Below.refl _ _) | (with_reducible assumption) | (with_reducible refine Below.alloc ?_ ?_ _) | (with_reducible refine Below.drew ?_) | (with_reducible refine below_drewN ?_ _) | (with_reducible refine Below.setCell ?_ ?_ _) | (with_reducible refine Below.trans ?_ (Below.mono (by assumption) ?_)) | (first | go_size | (with_reducible exact Below.size (by assumption)) | (with_reducible exact Nat.le_trans (Below.size (by assumption)) (Below.size (by assumption))) | (refine Nat.le_trans (Below.size (by assumption)) ?_; go_size))))) (by (repeat' (first | (with_reducible exact Below.refl _ _) | (with_reducible assumption) | (with_reducible refine Below.alloc ?_ ?_ _) | (with_reducible refine Below.drew ?_) | (with_reducible refine below_drewN ?_ _) | (with_reducible refine Below.setCell ?_ ?_ _) | (with_reducible refine Below.trans ?_ (Below.mono (by assumption) ?_)) | (first | go_size | (with_reducible exact Below.size (by assumption)) | (with_reducible exact Nat.le_trans (Below.size (by assumption)) (Below.size (by assumption))) | (refine Nat.le_trans (Below.size (by assumption)) ?_; go_size)))))
end Go.Proofs.Ytmlhdcpahfgckaa
