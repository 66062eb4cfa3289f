/-
  What package modes computes, as plain functions, and the contracts of its functions; the tables lie in the blocks of the package's variables.
-/
import Derived.Test.YtcnbjpbohhfmoaaDoorHeap
import Derived.Test.YtcnbjpbohhfmoaaDoorModesPure
namespace Go.Proofs.YtcnbjpbohhfmoaaDoor
open Go.RowKit

def fitsCells : List Value := [.bool false, .bool false, .bool false, .bool false, .bool false, .bool true, .bool true, .bool false, .bool false, .bool true, .bool false, .bool false, .bool false, .bool false, .bool false, .bool false]

/-- the table of what goes together, as the package lays it -/
def Tab (w : World) : Prop := ∀ k v, fitsCells[k]? = some v → w.cell? ⟨0, k, none⟩ = some v
theorem Tab.lt {w : World} (h : Tab w) : 0 < w.heap.size := World.block_lt_of_cell? w _ (h 0 (.bool false) rfl)
theorem Tab.keep {F : Nat → Prop} {w w' : World} (h : Tab w) (hc : Ch F w w') (hf : ¬ F 0) : Tab w' := fun k v hk => hc.keeps (h k v hk) hf
theorem Tab.below {w w' : World} (h : Tab w) (hc : Below w.heap.size w w') : Tab w' := h.keep (Ch.of_below hc (fun _ => False)) (fun e => e)
theorem Tab.alloc {w : World} (h : Tab w) (o : Obj) : Tab (w.alloc o) := h.keep ((Ch.refl (fun _ => False) _).alloc o) (fun e => e)

theorem valid_any (m : Int) (w : World) : Calls Tryd.prog 9 #[.int .i64 m] w fun e w' => e = .returned (.bool (vB m)) ∧ w = w' := by
  by_cases h1 : m < 1
  · have hv : vB m = false := by simp [vB]; omega
    go_enter Tryd.func9, Tryd.ntmps9
    go_wp2
    go_ret
    exact ⟨rfl, rfl⟩
  by_cases h2 : 3 < m
  · have hv : vB m = false := by simp [vB]; omega
    have hd : decide (m ≤ 3) = false := by simp; omega
    go_enter Tryd.func9, Tryd.ntmps9
    go_wp2
    go_ret
    exact ⟨rfl, rfl⟩
  · have hv : vB m = true := by simp [vB]; omega
    have hd : decide (m ≤ 3) = true := by simp; omega
    go_enter Tryd.func9, Tryd.ntmps9
    go_wp2
    go_ret
    exact ⟨rfl, rfl⟩

theorem valid_yes (m : Int) (w : World) (h : vB m = true) : Calls Tryd.prog 9 #[.int .i64 m] w fun e w' => e = .returned (.bool true) ∧ w = w' := h ▸ valid_any m w
theorem valid_no (m : Int) (w : World) (h : vB m = false) : Calls Tryd.prog 9 #[.int .i64 m] w fun e w' => e = .returned (.bool false) ∧ w = w' := h ▸ valid_any m w

theorem fits_any (a b : Int) (w : World) (ht : Tab w) : Calls Tryd.prog 11 #[.int .i64 a, .int .i64 b] w fun e w' => e = .returned (.bool (fB a b)) ∧ w = w' := by
  by_cases ha : vB a = true
  · by_cases hb : vB b = true
    · have ha' : a = 1 ∨ a = 2 ∨ a = 3 := by simp [vB] at ha; omega
      have hb' : b = 1 ∨ b = 2 ∨ b = 3 := by simp [vB] at hb; omega
      have t5 := ht 5 _ rfl
      have t6 := ht 6 _ rfl
      have t7 := ht 7 _ rfl
      have t9 := ht 9 _ rfl
      have t10 := ht 10 _ rfl
      have t11 := ht 11 _ rfl
      have t13 := ht 13 _ rfl
      have t14 := ht 14 _ rfl
      have t15 := ht 15 _ rfl
      clear ha hb ht
      rcases ha' with rfl | rfl | rfl <;> rcases hb' with rfl | rfl | rfl
      all_goals
        go_enter Tryd.func11, Tryd.ntmps11
        go_wp2_with (go_at_call 9; refine (valid_yes _ _ (by decide)).mono ?_; rintro e w' ⟨rfl, rfl⟩)
        go_ret
        exact ⟨rfl, rfl⟩
    · have hf : fB a b = false := by simp [vB] at ha hb; simp [fB]; omega
      have hb' : vB b = false := by simpa using hb
      clear hb
      have H := Lib.hid ha
      have H' := Lib.hid hb'
      clear ha hb'
      go_enter Tryd.func11, Tryd.ntmps11
      go_wp2_with fail
      refine (valid_yes _ _ H.out).mono ?_; rintro e w' ⟨rfl, rfl⟩
      go_wp2_with fail
      refine (valid_no _ _ H'.out).mono ?_; rintro e w' ⟨rfl, rfl⟩
      go_wp2
      go_ret
      exact ⟨ret_bool hf.symm, rfl⟩
  · have hf : fB a b = false := by simp [vB] at ha; simp [fB]; omega
    have ha' : vB a = false := by simpa using ha
    clear ha
    have H := Lib.hid ha'
    clear ha'
    go_enter Tryd.func11, Tryd.ntmps11
    go_wp2_with (go_at_call 9; refine (valid_no _ _ H.out).mono ?_; rintro e w' ⟨rfl, rfl⟩)
    go_ret
    exact ⟨ret_bool hf.symm, rfl⟩

/-- the closure of 'with': whether a mode does not go together with another one -/
theorem lit_any (g : Nat) (m o : Int) (w : World) (ht : Tab w) (hm : w.cell? ⟨g, 0, none⟩ = some (.int .i64 m)) :
    Calls Tryd.prog 31 #[.int .i64 o, .pointer (some ⟨g, 0, none⟩)] w fun e w' => e = .returned (.bool (!fB m o)) ∧ w = w' := by
  go_enter Tryd.func31, Tryd.ntmps31
  go_wp2_with (go_at_call 11; refine (fits_any _ _ _ ht).mono ?_; rintro e w' ⟨rfl, rfl⟩)
  go_ret
  exact ⟨rfl, rfl⟩

def ints (xs : List Int) : List Value := xs.map (.int .i64)
theorem ints_at (xs : List Int) (k : Nat) (h : k < xs.length) : (ints xs)[k]? = some (.int .i64 (xs.getD k 0)) := by
  simp [ints, List.getD, List.getElem?_eq_getElem h]
theorem rd_int {G : Nat → Prop} {w : World} {A : Option Addr} {xs : List Int} (h : Rd G w A (ints xs)) {k : Nat} (hk : k < xs.length) :
    ∃ b o, A = some ⟨b, o, none⟩ ∧ G b ∧ b < w.heap.size ∧ w.cell? ⟨b, o + k, none⟩ = some (.int .i64 (xs.getD k 0)) := by
  obtain ⟨b, o, e, hg, hl, hv⟩ := h (by intro e; have := ints_at xs k hk; rw [e] at this; cases this)
  exact ⟨b, o, e, hg, hl, hv k _ (ints_at xs k hk)⟩

abbrev lit (g : Nat) : Value := .func (.func 31) #[] #[.pointer (some ⟨g, 0, none⟩)]
theorem index_any (g : Nat) (m : Int) (A : Option Addr) (xs : List Int) (c : Nat) (w : World) (ht : Tab w) (hm : w.cell? ⟨g, 0, none⟩ = some (.int .i64 m)) (hr : Rd (fun _ => True) w A (ints xs)) (hn : xs.length ≤ 9223372036854775806) :
    Calls Tryd.prog 32 #[.slice A xs.length c, lit g] w fun e w' => e = .returned (.int .i64 (idxOf (fun o => !fB m o) xs)) ∧ w = w' := by
  go_enter Tryd.func32, Tryd.ntmps32
  go_wp2
  go_loop [8] (fun v => ∃ k : Nat, k ≤ xs.length ∧ v = .int .i64 k ∧ ∀ j, j < k → (!fB m (xs.getD j 0)) = false) (fun v => xs.length - (intOf v).toNat)
  case atStart => exact ⟨0, Nat.zero_le _, rfl, fun _ h => by omega⟩
  case round =>
    obtain ⟨k, hk, rfl, hall⟩ := hrel
    have HA := Lib.hid hall
    clear hall
    by_cases hlt : k < xs.length
    · obtain ⟨b, o, rfl, _, hb, hc⟩ := rd_int hr hlt
      obtain ⟨x, hx⟩ : ∃ x, x = xs.getD k 0 := ⟨_, rfl⟩
      rw [← hx] at hc
      by_cases hf : (!fB m x) = true
      · have hi := idx_hit (fun o => !fB m o) xs k hlt HA.out (by rw [← hx]; exact hf)
        have HI := Lib.hid hi
        clear hi hx
        go_wp2_with (go_at_call 31; refine (lit_any g m _ _ ht hm).mono ?_; rintro e w' ⟨rfl, rfl⟩)
        go_ret
        exact ⟨by rw [HI.out]; rfl, rfl⟩
      · have hf' : (!fB m x) = false := by simpa using hf
        have HN : Hid (∀ j, j < k + 1 → (!fB m (xs.getD j 0)) = false) := fun j hj => by
          by_cases e : j = k
          · rw [e, ← hx]; exact hf'
          · exact HA.out j (by omega)
        clear hx hf
        go_wp2_with (go_at_call 31; refine (lit_any g m _ _ ht hm).mono ?_; rintro e w' ⟨rfl, rfl⟩)
        go_round
        case rel => exact ⟨k + 1, by omega, by go_num, HN.out⟩
        case measure => simp [intOf]; omega
    · obtain rfl : k = xs.length := by omega
      have HI := Lib.hid (idx_none (fun o => !fB m o) xs HA.out)
      go_wp2
      go_ret
      exact ⟨by rw [HI.out]; rfl, rfl⟩

theorem with_any (m : Int) (A : Option Addr) (xs : List Int) (n c : Nat) (w : World) (ht : Tab w) (hr : Rd (fun _ => True) w A (ints xs)) (hl : xs.length = n) (hn : n ≤ 9223372036854775806) :
    Calls Tryd.prog 26 #[.int .i64 m, .slice A n c] w fun e w' => e = .returned (.bool (wB m xs)) ∧ w.alloc (.cells #[.int .i64 m] 22) = w' := by
  subst hl
  have hb := idx_any (fun o => !fB m o) xs
  have hw := not_any_not m xs
  rw [← hb] at hw
  have HW := Lib.hid hw
  clear hb hw
  go_enter Tryd.func26, Tryd.ntmps26
  go_wp2_with (first | (go_at_call 32; refine (index_any _ m A xs c _ (ht.alloc _) (by go_cell) (hr.keep ((Ch.refl (fun _ => False) _).alloc _) (fun _ _ _ e => e)) hn).mono ?_; rintro e w' ⟨rfl, rfl⟩) | (go_at_call 30; go_in))
  go_ret
  exact ⟨by rw [← HW.out]; rfl, rfl⟩
end Go.Proofs.YtcnbjpbohhfmoaaDoor
