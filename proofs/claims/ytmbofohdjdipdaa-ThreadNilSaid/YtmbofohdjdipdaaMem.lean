/-
  Contracts of package mem: an arena lies at block b (its slice) and block g (its words); what an access does.
-/
import Derived.Test.YtmbofohdjdipdaaHeap
namespace Go.Proofs.Ytmbofohdjdipdaa
open Go.RowKit

def u64s (xs : List Int) : List Value := xs.map (.int .u64)
theorem u64s_at (xs : List Int) (k : Nat) (h : k < xs.length) : (u64s xs)[k]? = some (.int .u64 (xs.getD k 0)) := by
  simp [u64s, List.getD, List.getElem?_eq_getElem h]

structure MemAt (w : World) (b g c : Nat) (ws : List Int) : Prop where
  hd : Blk w b 158 [.slice (some ⟨g, 0, none⟩) ws.length c]
  row : ∃ sp, Blk w g 33 (u64s ws ++ sp)
  lo : 1 ≤ ws.length
  hi : ws.length ≤ 65536
  cap : ws.length ≤ c
  capm : c ≤ 9223372036854775807
  wf : ∀ x ∈ ws, 0 ≤ x ∧ x ≤ 18446744073709551615

section
variable {w w' : World} {b g c : Nat} {ws : List Int}
theorem MemAt.ne (h : MemAt w b g c ws) : b ≠ g := by
  obtain ⟨sp, hr⟩ := h.row
  exact Blk.ne h.hd hr (by decide)
theorem MemAt.lt (h : MemAt w b g c ws) : b < w.heap.size ∧ g < w.heap.size := by
  obtain ⟨sp, hr⟩ := h.row
  exact ⟨h.hd.lt, hr.lt⟩
theorem MemAt.slice (h : MemAt w b g c ws) : w.cell? ⟨b, 0, none⟩ = some (.slice (some ⟨g, 0, none⟩) ws.length c) := h.hd.cell 0
theorem MemAt.word (h : MemAt w b g c ws) {i : Nat} (hi : i < ws.length) : w.cell? ⟨g, i, none⟩ = some (.int .u64 (ws.getD i 0)) := by
  obtain ⟨sp, hr⟩ := h.row
  rw [hr.cell, List.getElem?_append_left (by simpa [u64s] using hi)]
  exact u64s_at ws i hi
theorem MemAt.free (h : MemAt w b g c ws) (i : Nat) : w.frozen? ⟨g, i, none⟩ = false := by
  obtain ⟨sp, hr⟩ := h.row
  exact hr.frozen i
theorem MemAt.wfAt (h : MemAt w b g c ws) {i : Nat} (hi : i < ws.length) : 0 ≤ ws.getD i 0 ∧ ws.getD i 0 ≤ 18446744073709551615 :=
  h.wf _ (by simp [List.getD, List.getElem?_eq_getElem hi])
theorem MemAt.keep {F : Nat → Prop} (h : MemAt w b g c ws) (hc : Ch F w w') (hb : ¬ F b) (hg : ¬ F g) : MemAt w' b g c ws := by
  obtain ⟨sp, hr⟩ := h.row
  exact ⟨h.hd.keep hc hb, ⟨sp, hr.keep hc hg⟩, h.lo, h.hi, h.cap, h.capm, h.wf⟩
theorem MemAt.below (h : MemAt w b g c ws) (hc : Below w.heap.size w w') : MemAt w' b g c ws := h.keep (Ch.of_below hc (fun _ => False)) (fun e => e) (fun e => e)
theorem MemAt.rd (h : MemAt w b g c ws) : Rd (fun k => k = g) w (some ⟨g, 0, none⟩) (u64s ws) := by
  obtain ⟨sp, hr⟩ := h.row
  exact Rd.of_blk hr (List.prefix_append _ _) rfl
theorem MemAt.set (h : MemAt w b g c ws) (i : Nat) (hi : i < ws.length) (x : Int) (hx : 0 ≤ x ∧ x ≤ 18446744073709551615) : MemAt (w.setCell ⟨g, i, none⟩ (.int .u64 x)) b g c (ws.set i x) := by
  obtain ⟨sp, hr⟩ := h.row
  have hs := hr.set i (.int .u64 x)
  have e : (u64s ws ++ sp).set i (.int .u64 x) = u64s (ws.set i x) ++ sp := by
    rw [List.set_append_left _ _ (by simpa [u64s] using hi)]
    simp [u64s, List.map_set]
  rw [e] at hs
  have hd := h.hd.keep ((Ch.refl (fun k => k = g) w).setCell (p := ⟨g, i, none⟩) (.inl rfl) (.int .u64 x)) h.ne
  refine ⟨by simpa using hd, ⟨sp, hs⟩, by simpa using h.lo, by simpa using h.hi, by simpa using h.cap, h.capm, fun y hy => ?_⟩
  rcases List.mem_or_eq_of_mem_set hy with hy | rfl
  · exact h.wf y hy
  · exact hx
end

/-- an access made on words: the words after it, what it was, the error -/
def doWs (ws : List Int) (k i bf af : Int) : List Int :=
  if 1 ≤ k ∧ k ≤ 4 ∧ 0 ≤ i ∧ i < ws.length ∧ (k = 2 ∨ k = 4 ∨ (k = 3 ∧ ws.getD i.toNat 0 = bf)) then ws.set i.toNat af else ws
def doE (ws : List Int) (k i : Int) : Int := if k < 1 ∨ 4 < k then 2 else if i < 0 ∨ (ws.length : Int) ≤ i then 3 else 0
def doB (ws : List Int) (k i : Int) : Int := if doE ws k i = 0 then ws.getD i.toNat 0 else 0
def doA (ws : List Int) (k i bf af : Int) : Int := if doE ws k i = 0 then (doWs ws k i bf af).getD i.toNat 0 else 0
def doK (ws : List Int) (k i : Int) : Int := if doE ws k i = 0 then k else 0
def doI (ws : List Int) (k i : Int) : Int := if doE ws k i = 0 then i else 0
abbrev acc4 (k i bf af : Int) : Value := .agg #[.int .i64 k, .int .i64 i, .int .u64 bf, .int .u64 af]

theorem mzero_ok (b g c : Nat) (ws : List Int) (w : World) (h : MemAt w b g c ws) :
    Calls Try.prog 76 #[.pointer (some ⟨b, 0, none⟩)] w fun e w' => e = .returned (.bool false) ∧ w = w' := by
  have hs := h.slice
  have hz : ((ws.length : Int) == 0) = false := by have := h.lo; simp only [beq_eq_false_iff_ne]; omega
  go_enter Try.func76, Try.ntmps76
  go_wp2
  go_ret
  exact ⟨rfl, rfl⟩
theorem mzero_nil (w : World) :
    Calls Try.prog 76 #[.pointer none] w fun e w' => e = .returned (.bool true) ∧ w = w' := by
  go_enter Try.func76, Try.ntmps76
  go_wp2
  go_ret
  exact ⟨rfl, rfl⟩

def DoPost (w : World) (b g c : Nat) (ws : List Int) (k i bf af : Int) (e : Ending) (w' : World) : Prop :=
  e = .returned (.tuple #[acc4 (doK ws k i) (doI ws k i) (doB ws k i) (doA ws k i bf af), .int .i64 (doE ws k i)]) ∧ MemAt w' b g c (doWs ws k i bf af) ∧ Ch (fun j => j = g) w w'

theorem do_bad (b g c : Nat) (ws : List Int) (k i bf af : Int) (w : World) (h : MemAt w b g c ws) (hk : k < 1 ∨ 4 < k) :
    Calls Try.prog 58 #[.pointer (some ⟨b, 0, none⟩), acc4 k i bf af] w (DoPost w b g c ws k i bf af) := by
  have HE : Hid (doE ws k i = 2) := (show doE ws k i = 2 from by simp [doE, hk])
  have HW : Hid (doWs ws k i bf af = ws) := (show doWs ws k i bf af = ws from by unfold doWs; rw [if_neg (by omega)])
  have hP : ∀ w', Below w.heap.size w w' → DoPost w b g c ws k i bf af (.returned (.tuple #[acc4 0 0 0 0, .int .i64 2])) w' := fun w' hb => by
    unfold DoPost doK doI doB doA
    rw [HW.out, HE.out]
    exact ⟨rfl, h.below hb, Ch.of_below hb _⟩
  rcases hk with hk | hk
  all_goals
    go_enter Try.func58, Try.ntmps58
    go_wp2_with (go_at_call 76; refine (mzero_ok b g c ws _ (h.below (by (repeat' (first | (with_reducible exact Below.refl _ _) | (with_reducible assumption) | (with_reducible refine Below.alloc ?_ ?_ _) | (with_reducible refine Below.drew ?_) | (with_reducible refine below_drewN ?_ _) | (with_reducible refine Below.setCell ?_ ?_ _) | (with_reducible refine Below.trans ?_ (Below.mono (by assumption) ?_)) | (first | go_size | (with_reducible exact Below.size (by assumption)) | (with_reducible exact Nat.le_trans (Below.size (by assumption)) (Below.size (by assumption))) | (refine Nat.le_trans (Below.size (by assumption)) ?_; go_size))))))).mono ?_; rintro e w' ⟨rfl, rfl⟩)
    refine bodyPost_ret (v := .tuple #[acc4 0 0 0 0, .int .i64 2]) (by simp [results, go_sem]) rfl ?_
    exact hP _ (by (repeat' (first | (with_reducible exact Below.refl _ _) | (with_reducible assumption) | (with_reducible refine Below.alloc ?_ ?_ _) | (with_reducible refine Below.drew ?_) | (with_reducible refine below_drewN ?_ _) | (with_reducible refine Below.setCell ?_ ?_ _) | (with_reducible refine Below.trans ?_ (Below.mono (by assumption) ?_)) | (first | go_size | (with_reducible exact Below.size (by assumption)) | (with_reducible exact Nat.le_trans (Below.size (by assumption)) (Below.size (by assumption))) | (refine Nat.le_trans (Below.size (by assumption)) ?_; go_size)))))

theorem do_range (b g c : Nat) (ws : List Int) (k i bf af : Int) (w : World) (h : MemAt w b g c ws) (hk : ¬ (k < 1 ∨ 4 < k)) (hi : i < 0 ∨ (ws.length : Int) ≤ i) :
    Calls Try.prog 58 #[.pointer (some ⟨b, 0, none⟩), acc4 k i bf af] w (DoPost w b g c ws k i bf af) := by
  have HE : Hid (doE ws k i = 3) := (show doE ws k i = 3 from by simp only [doE]; rw [if_neg hk, if_pos hi])
  have HW : Hid (doWs ws k i bf af = ws) := (show doWs ws k i bf af = ws from by unfold doWs; rw [if_neg (by omega)])
  have hP : ∀ w', Below w.heap.size w w' → DoPost w b g c ws k i bf af (.returned (.tuple #[acc4 0 0 0 0, .int .i64 3])) w' := fun w' hb => by
    unfold DoPost doK doI doB doA
    rw [HW.out, HE.out]
    exact ⟨rfl, h.below hb, Ch.of_below hb _⟩
  have k1 : decide (k < 1) = false := decide_eq_false (by omega)
  have k2 : decide (4 < k) = false := decide_eq_false (by omega)
  have hs := h.slice
  have hne := h.lt
  rcases hi with hi | hi
  · go_enter Try.func58, Try.ntmps58
    go_wp2_with (first | (go_at_call 76; refine (mzero_ok b g c ws _ (h.below (by (repeat' (first | (with_reducible exact Below.refl _ _) | (with_reducible assumption) | (with_reducible refine Below.alloc ?_ ?_ _) | (with_reducible refine Below.drew ?_) | (with_reducible refine below_drewN ?_ _) | (with_reducible refine Below.setCell ?_ ?_ _) | (with_reducible refine Below.trans ?_ (Below.mono (by assumption) ?_)) | (first | go_size | (with_reducible exact Below.size (by assumption)) | (with_reducible exact Nat.le_trans (Below.size (by assumption)) (Below.size (by assumption))) | (refine Nat.le_trans (Below.size (by assumption)) ?_; go_size))))))).mono ?_; rintro e w' ⟨rfl, rfl⟩) | (go_quiet (fail)))
    refine bodyPost_ret (v := .tuple #[acc4 0 0 0 0, .int .i64 3]) (by simp [results, go_sem]) rfl ?_
    exact hP _ (by (repeat' (first | (with_reducible exact Below.refl _ _) | (with_reducible assumption) | (with_reducible refine Below.alloc ?_ ?_ _) | (with_reducible refine Below.drew ?_) | (with_reducible refine below_drewN ?_ _) | (with_reducible refine Below.setCell ?_ ?_ _) | (with_reducible refine Below.trans ?_ (Below.mono (by assumption) ?_)) | (first | go_size | (with_reducible exact Below.size (by assumption)) | (with_reducible exact Nat.le_trans (Below.size (by assumption)) (Below.size (by assumption))) | (refine Nat.le_trans (Below.size (by assumption)) ?_; go_size)))))
  · have i1 : decide (i < 0) = false := decide_eq_false (by have := h.lo; omega)
    have i2 : decide ((ws.length : Int) ≤ i) = true := decide_eq_true hi
    go_enter Try.func58, Try.ntmps58
    go_wp2_with (first | (go_at_call 76; refine (mzero_ok b g c ws _ (h.below (by (repeat' (first | (with_reducible exact Below.refl _ _) | (with_reducible assumption) | (with_reducible refine Below.alloc ?_ ?_ _) | (with_reducible refine Below.drew ?_) | (with_reducible refine below_drewN ?_ _) | (with_reducible refine Below.setCell ?_ ?_ _) | (with_reducible refine Below.trans ?_ (Below.mono (by assumption) ?_)) | (first | go_size | (with_reducible exact Below.size (by assumption)) | (with_reducible exact Nat.le_trans (Below.size (by assumption)) (Below.size (by assumption))) | (refine Nat.le_trans (Below.size (by assumption)) ?_; go_size))))))).mono ?_; rintro e w' ⟨rfl, rfl⟩) | (go_quiet (fail)))
    refine bodyPost_ret (v := .tuple #[acc4 0 0 0 0, .int .i64 3]) (by simp [results, go_sem]) rfl ?_
    exact hP _ (by (repeat' (first | (with_reducible exact Below.refl _ _) | (with_reducible assumption) | (with_reducible refine Below.alloc ?_ ?_ _) | (with_reducible refine Below.drew ?_) | (with_reducible refine below_drewN ?_ _) | (with_reducible refine Below.setCell ?_ ?_ _) | (with_reducible refine Below.trans ?_ (Below.mono (by assumption) ?_)) | (first | go_size | (with_reducible exact Below.size (by assumption)) | (with_reducible exact Nat.le_trans (Below.size (by assumption)) (Below.size (by assumption))) | (refine Nat.le_trans (Below.size (by assumption)) ?_; go_size)))))

end Go.Proofs.Ytmbofohdjdipdaa
