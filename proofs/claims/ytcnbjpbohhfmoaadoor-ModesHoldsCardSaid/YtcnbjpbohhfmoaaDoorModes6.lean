/-
  Contracts of package modes, the words of modes.
-/
import Derived.Test.YtcnbjpbohhfmoaaDoorModes5
namespace Go.Proofs.YtcnbjpbohhfmoaaDoor
open Go.RowKit

def w0 : ByteArray := ⟨#[]⟩
def w1 : ByteArray := ⟨#[115, 104, 97, 114, 101, 100]⟩
def w2 : ByteArray := ⟨#[117, 112, 100, 97, 116, 101]⟩
def w3 : ByteArray := ⟨#[101, 120, 99, 108, 117, 115, 105, 118, 101]⟩
def wordCells : List Value := [.string w0, .string w1, .string w2, .string w3]
def Tab2 (w : World) : Prop := ∀ k v, wordCells[k]? = some v → w.cell? ⟨1, k, none⟩ = some v
theorem Tab2.keep {F : Nat → Prop} {w w' : World} (h : Tab2 w) (hc : Ch F w w') (hf : ¬ F 1) : Tab2 w' := fun k v hk => hc.keeps (h k v hk) hf
theorem Tab2.below {w w' : World} (h : Tab2 w) (hc : Below w.heap.size w w') : Tab2 w' := h.keep (Ch.of_below hc (fun _ => False)) (fun e => e)

/-- the mode with a word, 0 if there is none -/
def mw (s : ByteArray) : Int := if (s.toList == w1.toList) = true then 1 else if (s.toList == w2.toList) = true then 2 else if (s.toList == w3.toList) = true then 3 else 0
def mwE (m : Int) : Int := if m = 0 then 6 else 0

theorem byWord_any (s : ByteArray) (w : World) (ht : Tab2 w) :
    Calls Tryd.prog 25 #[.string s] w fun e w' => e = .returned (.tuple #[.int .i64 (mw s), .int .i64 (mwE (mw s))]) ∧ w = w' := by
  have t0 := ht 0 _ rfl
  have t1 := ht 1 _ rfl
  have t2 := ht 2 _ rfl
  have t3 := ht 3 _ rfl
  clear ht
  by_cases c0 : (s.toList == w0.toList) = true
  · have HM : Hid (mw s = 0) := by
      show mw s = 0
      have : s.toList = w0.toList := by simpa using c0
      unfold mw
      rw [this, if_neg (by decide +kernel), if_neg (by decide +kernel), if_neg (by decide +kernel)]
    go_enter Tryd.func25, Tryd.ntmps25
    go_wp2
    refine wp_loop_rounds 5 ?_
    change Code.wp _ _ _ _ _
    go_wp2
    go_ret2
    exact ⟨by rw [HM.out]; rfl, rfl⟩
  have c0' : (s.toList == w0.toList) = false := by simpa using c0
  clear c0
  by_cases c1 : (s.toList == w1.toList) = true
  · have HM : Hid (mw s = 1) := by unfold mw; rw [if_pos c1]; exact rfl
    go_enter Tryd.func25, Tryd.ntmps25
    go_wp2
    refine wp_loop_rounds 5 ?_
    change Code.wp _ _ _ _ _
    go_wp2
    change Code.wp _ _ _ _ _
    go_wp2
    go_ret2
    exact ⟨by rw [HM.out]; rfl, rfl⟩
  have c1' : (s.toList == w1.toList) = false := by simpa using c1
  clear c1
  by_cases c2 : (s.toList == w2.toList) = true
  · have HM : Hid (mw s = 2) := by unfold mw; rw [if_neg (by rw [c1']; simp), if_pos c2]; exact rfl
    go_enter Tryd.func25, Tryd.ntmps25
    go_wp2
    refine wp_loop_rounds 5 ?_
    change Code.wp _ _ _ _ _
    go_wp2
    change Code.wp _ _ _ _ _
    go_wp2
    change Code.wp _ _ _ _ _
    go_wp2
    go_ret2
    exact ⟨by rw [HM.out]; rfl, rfl⟩
  have c2' : (s.toList == w2.toList) = false := by simpa using c2
  clear c2
  by_cases c3 : (s.toList == w3.toList) = true
  · have HM : Hid (mw s = 3) := by unfold mw; rw [if_neg (by rw [c1']; simp), if_neg (by rw [c2']; simp), if_pos c3]; exact rfl
    go_enter Tryd.func25, Tryd.ntmps25
    go_wp2
    refine wp_loop_rounds 5 ?_
    change Code.wp _ _ _ _ _
    go_wp2
    change Code.wp _ _ _ _ _
    go_wp2
    change Code.wp _ _ _ _ _
    go_wp2
    change Code.wp _ _ _ _ _
    go_wp2
    go_ret2
    exact ⟨by rw [HM.out]; rfl, rfl⟩
  have c3' : (s.toList == w3.toList) = false := by simpa using c3
  clear c3
  · have HM : Hid (mw s = 0) := by unfold mw; rw [if_neg (by rw [c1']; simp), if_neg (by rw [c2']; simp), if_neg (by rw [c3']; simp)]; exact rfl
    go_enter Tryd.func25, Tryd.ntmps25
    go_wp2
    refine wp_loop_rounds 5 ?_
    change Code.wp _ _ _ _ _
    go_wp2
    change Code.wp _ _ _ _ _
    go_wp2
    change Code.wp _ _ _ _ _
    go_wp2
    change Code.wp _ _ _ _ _
    go_wp2
    change Code.wp _ _ _ _ _
    go_wp2
    go_ret2
    exact ⟨by rw [HM.out]; rfl, rfl⟩

theorem word_ok (m : Int) (w : World) (ht : Tab2 w) (h1 : 1 ≤ m) (h2 : m ≤ 3) :
    Calls Tryd.prog 24 #[.int .i64 m] w fun e w' => e = .returned (.tuple #[.string (if m = 1 then w1 else if m = 2 then w2 else w3), .int .i64 0]) ∧ w = w' := by
  have t1 := ht 1 _ rfl
  have t2 := ht 2 _ rfl
  have t3 := ht 3 _ rfl
  have hc : m = 1 ∨ m = 2 ∨ m = 3 := by omega
  rcases hc with rfl | rfl | rfl
  all_goals
    go_enter Tryd.func24, Tryd.ntmps24
    go_wp2
    go_ret2
    exact ⟨rfl, rfl⟩
theorem word_bad (m : Int) (w : World) (h : vB m = false) :
    Calls Tryd.prog 24 #[.int .i64 m] w fun e w' => e = .returned (.tuple #[.string w0, .int .i64 2]) ∧ w = w' := by
  go_enter Tryd.func24, Tryd.ntmps24
  go_wp2_with (go_at_call 9; refine (valid_no m _ h).mono ?_; rintro e w' ⟨rfl, rfl⟩)
  go_ret2
  exact ⟨rfl, rfl⟩
end Go.Proofs.YtcnbjpbohhfmoaaDoor
