/-
  The walk of VersionNil: it returns true at every input.
-/
import Derived.Test.YtbhcgmiglkocbaaK11
namespace Go.Proofs.Ytbhcgmiglkocbaa
open Go.RowKit
namespace VersionNil
theorem wf_u64 {x : Int} (h : (Lit.int .u64 x).wf = true) : 0 ≤ x ∧ x ≤ 18446744073709551615 := by
  simp [Lit.wf, IntKind.min, IntKind.max, IntKind.signed, IntKind.bits] at h
  omega
def zr : List Value := [.bool false, .int .i64 0, .int .i64 0, .int .i64 0, .int .i64 0, .bool false, .int .u64 0, .slice none 0 0, .int .u64 0, .bool false]
def zw : List Value := [.bool false, .int .i64 0, .int .i64 0, .slice none 0 0, .int .u64 0, .int .i64 0, .bool false]
def Zp (T : TypeId) (cs : List Value) (w : World) (p : Option Addr) : Prop := p = none ∨ ∃ b, p = some ⟨b, 0, none⟩ ∧ Blk w b T cs

set_option maxRecDepth 100000 in
theorem step_z_Read (p : Option Addr) (b : Nat) (w : World) (h : Zp 53 zr w p) : Calls Try.prog 25 #[.pointer p, memI b] w fun e w' => e = .returned (.tuple #[.bool false, .int .i64 1]) ∧ w = w' := by
  rcases h with rfl | ⟨q, rfl, h⟩
  · go_enter Try.func25, Try.ntmps25
    go_wp2
    go_ret2
    exact ⟨rfl, rfl⟩
  · have c0 : w.cell? ⟨q, 0, none⟩ = some (.bool false) := h.cell 0
    clear h
    go_enter Try.func25, Try.ntmps25
    go_wp2
    go_ret2
    exact ⟨rfl, rfl⟩
theorem done_z_Read (p : Option Addr) (w : World) (h : Zp 53 zr w p) : Calls Try.prog 12 #[.pointer p] w fun e w' => e = .returned (.bool true) ∧ w = w' := by
  rcases h with rfl | ⟨q, rfl, h⟩
  · go_enter Try.func12, Try.ntmps12
    go_wp2
    go_ret
    exact ⟨rfl, rfl⟩
  · have c0 : w.cell? ⟨q, 0, none⟩ = some (.bool false) := h.cell 0
    clear h
    go_enter Try.func12, Try.ntmps12
    go_wp2
    go_ret
    exact ⟨rfl, rfl⟩
theorem result_z_Read (p : Option Addr) (w : World) (h : Zp 53 zr w p) : Calls Try.prog 13 #[.pointer p] w fun e w' => e = .returned (.int .u64 0) ∧ w = w' := by
  rcases h with rfl | ⟨q, rfl, h⟩
  · go_enter Try.func13, Try.ntmps13
    go_wp2
    go_ret
    exact ⟨rfl, rfl⟩
  · have c0 := h.cell 8
    dsimp only [zr, List.getElem?_cons_succ, List.getElem?_cons_zero] at c0
    clear h
    go_enter Try.func13, Try.ntmps13
    go_wp2
    go_ret
    exact ⟨rfl, rfl⟩
theorem copy_z_Read (p : Option Addr) (w : World) (h : Zp 53 zr w p) : Calls Try.prog 58 #[.pointer p] w fun e w' => e = .returned .nilIface ∧ w = w' := by
  rcases h with rfl | ⟨q, rfl, h⟩
  · go_enter Try.func58, Try.ntmps58
    go_wp2
    go_ret
    exact ⟨rfl, rfl⟩
  · have c0 : w.cell? ⟨q, 0, none⟩ = some (.bool false) := h.cell 0
    clear h
    go_enter Try.func58, Try.ntmps58
    go_wp2
    go_ret
    exact ⟨rfl, rfl⟩
theorem nilz_Step_Read (p : Option Addr) (w : World) : (nilAhead 218 26 (.pointer p) "Step").run Try.prog w = .ok (some false) w := by cases p <;> kernel_rfl
theorem methodz_Step_Read (p : Option Addr) (w : World) : (method 218 26 (.pointer p) "Step").run Try.prog w = .ok (25, .pointer p) w := by cases p <;> kernel_rfl
theorem nilz_Done_Read (p : Option Addr) (w : World) : (nilAhead 218 26 (.pointer p) "Done").run Try.prog w = .ok (some false) w := by cases p <;> kernel_rfl
theorem methodz_Done_Read (p : Option Addr) (w : World) : (method 218 26 (.pointer p) "Done").run Try.prog w = .ok (12, .pointer p) w := by cases p <;> kernel_rfl
theorem nilz_Result_Read (p : Option Addr) (w : World) : (nilAhead 218 26 (.pointer p) "Result").run Try.prog w = .ok (some false) w := by cases p <;> kernel_rfl
theorem methodz_Result_Read (p : Option Addr) (w : World) : (method 218 26 (.pointer p) "Result").run Try.prog w = .ok (13, .pointer p) w := by cases p <;> kernel_rfl
theorem nilz_Copy_Read (p : Option Addr) (w : World) : (nilAhead 218 26 (.pointer p) "Copy").run Try.prog w = .ok (some false) w := by cases p <;> kernel_rfl
theorem methodz_Copy_Read (p : Option Addr) (w : World) : (method 218 26 (.pointer p) "Copy").run Try.prog w = .ok (58, .pointer p) w := by cases p <;> kernel_rfl

set_option maxRecDepth 100000 in
theorem step_z_Write (p : Option Addr) (b : Nat) (w : World) (h : Zp 55 zw w p) : Calls Try.prog 26 #[.pointer p, memI b] w fun e w' => e = .returned (.tuple #[.bool false, .int .i64 1]) ∧ w = w' := by
  rcases h with rfl | ⟨q, rfl, h⟩
  · go_enter Try.func26, Try.ntmps26
    go_wp2
    go_ret2
    exact ⟨rfl, rfl⟩
  · have c0 : w.cell? ⟨q, 0, none⟩ = some (.bool false) := h.cell 0
    clear h
    go_enter Try.func26, Try.ntmps26
    go_wp2
    go_ret2
    exact ⟨rfl, rfl⟩
theorem done_z_Write (p : Option Addr) (w : World) (h : Zp 55 zw w p) : Calls Try.prog 17 #[.pointer p] w fun e w' => e = .returned (.bool true) ∧ w = w' := by
  rcases h with rfl | ⟨q, rfl, h⟩
  · go_enter Try.func17, Try.ntmps17
    go_wp2
    go_ret
    exact ⟨rfl, rfl⟩
  · have c0 : w.cell? ⟨q, 0, none⟩ = some (.bool false) := h.cell 0
    clear h
    go_enter Try.func17, Try.ntmps17
    go_wp2
    go_ret
    exact ⟨rfl, rfl⟩
theorem result_z_Write (p : Option Addr) (w : World) (h : Zp 55 zw w p) : Calls Try.prog 18 #[.pointer p] w fun e w' => e = .returned (.int .u64 0) ∧ w = w' := by
  rcases h with rfl | ⟨q, rfl, h⟩
  · go_enter Try.func18, Try.ntmps18
    go_wp2
    go_ret
    exact ⟨rfl, rfl⟩
  · have c0 := h.cell 6
    dsimp only [zw, List.getElem?_cons_succ, List.getElem?_cons_zero] at c0
    clear h
    go_enter Try.func18, Try.ntmps18
    go_wp2
    go_ret
    exact ⟨rfl, rfl⟩
theorem copy_z_Write (p : Option Addr) (w : World) (h : Zp 55 zw w p) : Calls Try.prog 59 #[.pointer p] w fun e w' => e = .returned .nilIface ∧ w = w' := by
  rcases h with rfl | ⟨q, rfl, h⟩
  · go_enter Try.func59, Try.ntmps59
    go_wp2
    go_ret
    exact ⟨rfl, rfl⟩
  · have c0 : w.cell? ⟨q, 0, none⟩ = some (.bool false) := h.cell 0
    clear h
    go_enter Try.func59, Try.ntmps59
    go_wp2
    go_ret
    exact ⟨rfl, rfl⟩
theorem nilz_Step_Write (p : Option Addr) (w : World) : (nilAhead 218 33 (.pointer p) "Step").run Try.prog w = .ok (some false) w := by cases p <;> kernel_rfl
theorem methodz_Step_Write (p : Option Addr) (w : World) : (method 218 33 (.pointer p) "Step").run Try.prog w = .ok (26, .pointer p) w := by cases p <;> kernel_rfl
theorem nilz_Done_Write (p : Option Addr) (w : World) : (nilAhead 218 33 (.pointer p) "Done").run Try.prog w = .ok (some false) w := by cases p <;> kernel_rfl
theorem methodz_Done_Write (p : Option Addr) (w : World) : (method 218 33 (.pointer p) "Done").run Try.prog w = .ok (17, .pointer p) w := by cases p <;> kernel_rfl
theorem nilz_Result_Write (p : Option Addr) (w : World) : (nilAhead 218 33 (.pointer p) "Result").run Try.prog w = .ok (some false) w := by cases p <;> kernel_rfl
theorem methodz_Result_Write (p : Option Addr) (w : World) : (method 218 33 (.pointer p) "Result").run Try.prog w = .ok (18, .pointer p) w := by cases p <;> kernel_rfl
theorem nilz_Copy_Write (p : Option Addr) (w : World) : (nilAhead 218 33 (.pointer p) "Copy").run Try.prog w = .ok (some false) w := by cases p <;> kernel_rfl
theorem methodz_Copy_Write (p : Option Addr) (w : World) : (method 218 33 (.pointer p) "Copy").run Try.prog w = .ok (59, .pointer p) w := by cases p <;> kernel_rfl

theorem words_nil (w : World) : Calls Try.prog 14 #[.pointer none] w fun e w' => e = .returned (.slice none 0 0) ∧ w = w' := by
  have hr := result_z_Read none w (.inl rfl)
  go_enter Try.func14, Try.ntmps14
  go_wp2_with (go_at_call 13; refine hr.mono ?_; rintro e w' ⟨rfl, rfl⟩)
  go_ret
  exact ⟨rfl, rfl⟩
theorem version_nil (w : World) : Calls Try.prog 15 #[.pointer none] w fun e w' => e = .returned (.int .u64 0) ∧ w = w' := by
  have hr := result_z_Read none w (.inl rfl)
  go_enter Try.func15, Try.ntmps15
  go_wp2_with (go_at_call 13; refine hr.mono ?_; rintro e w' ⟨rfl, rfl⟩)
  go_ret
  exact ⟨rfl, rfl⟩
theorem rstep_nil (B r : Nat) (v f n : Int) (s : Rs) (lv : Value) (w : World) (h : RdAt B w r v f n s lv) : Calls Try.prog 25 #[.pointer (some ⟨r, 0, none⟩), .nilIface] w fun e w' => e = .returned (.tuple #[.bool false, .int .i64 1]) ∧ w = w' := by
  have c0 : w.cell? ⟨r, 0, none⟩ = some (.bool true) := h.hd.cell 0
  clear h
  go_enter Try.func25, Try.ntmps25
  go_wp2
  go_ret2
  exact ⟨rfl, rfl⟩
theorem wstep_nil (B r : Nat) (v f : Int) (A : Option Addr) (cl : Nat) (xs : List Int) (s : Ws) (w : World) (h : WrAt B w r v f A cl xs s) : Calls Try.prog 26 #[.pointer (some ⟨r, 0, none⟩), .nilIface] w fun e w' => e = .returned (.tuple #[.bool false, .int .i64 1]) ∧ w = w' := by
  have c0 : w.cell? ⟨r, 0, none⟩ = some (.bool true) := h.hd.cell 0
  clear h
  go_enter Try.func26, Try.ntmps26
  go_wp2
  go_ret2
  exact ⟨rfl, rfl⟩

set_option maxRecDepth 100000 in
set_option maxHeartbeats 4000000 in
theorem walk (x : Int) (wx : (Lit.int .u64 x).wf = true) (v : Int) (wv : (Lit.int .u64 v).wf = true) (W : World) :
    Calls Try.prog 6 #[.int .u64 x, .int .u64 v] W fun e w' => e = .returned (.bool true) ∧ Below W.heap.size W w' := by
  have hx := wf_u64 wx
  have hv := wf_u64 wv
  have hwf2 : ∀ y ∈ [x, v], 0 ≤ y ∧ y ≤ 18446744073709551615 := by intro y hy; simp at hy; rcases hy with rfl | rfl; exact hx; exact hv
  have hwf1 : ∀ y ∈ [v], 0 ≤ y ∧ y ≤ 18446744073709551615 := by intro y hy; simp at hy; subst hy; exact hv
  have H2 := Lib.hid hwf2
  have H1 := Lib.hid hwf1
  clear hwf1 hwf2 wx wv
  go_enter Try.func6, Try.ntmps6
  go_wp2_with fail
  refine (made_ok (some ⟨W.heap.size, 0, none⟩) [x, v] 2 2 _ (Rd.of_blk (Blk.new W 22 (u64s [x, v])) (List.prefix_refl _) (by simp)) rfl (by omega) (by omega) (by omega) H2.out).mono ?_
  rintro e w0 ⟨b, g, rfl, hm, hb, hg, hB⟩
  have hV : KV W w0 b g 2 [x, v] := ⟨hm, by simp at hb; omega, by simp at hg; omega, Below.trans (by (repeat' (first | (with_reducible exact Below.refl _ _) | (with_reducible assumption) | (with_reducible refine Below.alloc ?_ ?_ _) | (with_reducible refine Below.drew ?_) | (with_reducible refine below_drewN ?_ _) | (with_reducible refine Below.setCell ?_ ?_ _) | (with_reducible refine Below.trans ?_ (Below.mono (by assumption) ?_)) | (first | go_size | (with_reducible exact Below.size (by assumption)) | (with_reducible exact Nat.le_trans (Below.size (by assumption)) (Below.size (by assumption))) | (refine Nat.le_trans (Below.size (by assumption)) ?_; go_size))))) (hB.mono (by simp))⟩
  clear hm hb hg hB
  go_wp2_with fail
  refine (kread 0 1 1 1 _ (by decide) (by decide) (by decide)).mono ?_
  rintro e w1 ⟨r, B, rfl, hR, q1, q2, hb⟩
  have hV1 := hV.step hb
  clear hV hb
  go_wp2_with fail
  refine (kwrite 0 1 _ [v] 1 1 _ (by show OkV 0 1 1; decide) (rd_new w1 [v]) rfl (fun e => by cases e) H1.out).mono ?_
  rintro e w2 ⟨p, C, A, cl, rfl, hWr, q3, q4, hb⟩
  have hb1 : Below w1.heap.size w1 w2 := Below.trans (by (repeat' (first | (with_reducible exact Below.refl _ _) | (with_reducible assumption) | (with_reducible refine Below.alloc ?_ ?_ _) | (with_reducible refine Below.drew ?_) | (with_reducible refine below_drewN ?_ _) | (with_reducible refine Below.setCell ?_ ?_ _) | (with_reducible refine Below.trans ?_ (Below.mono (by assumption) ?_)) | (first | go_size | (with_reducible exact Below.size (by assumption)) | (with_reducible exact Nat.le_trans (Below.size (by assumption)) (Below.size (by assumption))) | (refine Nat.le_trans (Below.size (by assumption)) ?_; go_size))))) (hb.mono (by simp))
  have hV2 := hV1.step hb1
  have hR2 := hR.below hb1
  clear hV1 hR hb hb1
  have s1 := rstep_nil B r 0 1 1 (rs0 1) _ w2 hR2
  have s2 := rdone_any B r 0 1 1 (rs0 1) _ w2 hR2
  have s3 := wstep_nil C p 0 1 A cl [v] ⟨0, 0, false⟩ w2 hWr
  have s4 := wdone_any C p 0 1 A cl [v] ⟨0, 0, false⟩ w2 hWr
  dsimp only [rs0] at s2 s4
  clear hR2 hWr q1 q2 q3 q4
  go_wp2_with fail
  refine s1.mono ?_
  rintro e w' ⟨rfl, rfl⟩
  go_wp2_with fail
  refine s3.mono ?_
  rintro e w' ⟨rfl, rfl⟩
  go_wp2_with fail
  refine s2.mono ?_
  rintro e w' ⟨rfl, rfl⟩
  go_wp2_with fail
  refine s4.mono ?_
  rintro e w' ⟨rfl, rfl⟩
  clear s1 s2 s3 s4
  have hend := hV2.below
  clear hV2
  have hX : ∀ X, X = (((w2.alloc (.cells zr.toArray 53)).alloc (.cells zw.toArray 55)).alloc (.cells #[.iface 26 (.pointer none), .iface 26 (.pointer (some ⟨w2.heap.size, 0, none⟩)), .iface 33 (.pointer none), .iface 33 (.pointer (some ⟨w2.heap.size + 1, 0, none⟩))] 58)) → Zp 53 zr X (some ⟨w2.heap.size, 0, none⟩) ∧ Zp 55 zw X (some ⟨w2.heap.size + 1, 0, none⟩) := fun X hX => by
    subst hX
    have h1 := Blk.new w2 53 zr
    have h2 := Blk.new (w2.alloc (.cells zr.toArray 53)) 55 zw
    rw [World.size_alloc] at h2
    exact ⟨.inr ⟨_, rfl, Blk.keep h1 (Ch.of_below (by (repeat' (first | (with_reducible exact Below.refl _ _) | (with_reducible assumption) | (with_reducible refine Below.alloc ?_ ?_ _) | (with_reducible refine Below.drew ?_) | (with_reducible refine below_drewN ?_ _) | (with_reducible refine Below.setCell ?_ ?_ _) | (with_reducible refine Below.trans ?_ (Below.mono (by assumption) ?_)) | (first | go_size | (with_reducible exact Below.size (by assumption)) | (with_reducible exact Nat.le_trans (Below.size (by assumption)) (Below.size (by assumption))) | (refine Nat.le_trans (Below.size (by assumption)) ?_; go_size))))) (fun _ => False)) (fun e => e)⟩, .inr ⟨_, rfl, Blk.keep h2 (Ch.of_below (by (repeat' (first | (with_reducible exact Below.refl _ _) | (with_reducible assumption) | (with_reducible refine Below.alloc ?_ ?_ _) | (with_reducible refine Below.drew ?_) | (with_reducible refine below_drewN ?_ _) | (with_reducible refine Below.setCell ?_ ?_ _) | (with_reducible refine Below.trans ?_ (Below.mono (by assumption) ?_)) | (first | go_size | (with_reducible exact Below.size (by assumption)) | (with_reducible exact Nat.le_trans (Below.size (by assumption)) (Below.size (by assumption))) | (refine Nat.le_trans (Below.size (by assumption)) ?_; go_size))))) (fun _ => False)) (fun e => e)⟩⟩
  obtain ⟨hZA, hZR⟩ := hX _ rfl
  clear hX
  go_wp2_with fail
  refine wp_loop_rounds 5 ?_
  change Code.wp _ _ _ _ _
  have nStep := nilz_Step_Read none
  have mStep := methodz_Step_Read none
  have nDone := nilz_Done_Read none
  have mDone := methodz_Done_Read none
  have nResult := nilz_Result_Read none
  have mResult := methodz_Result_Read none
  have nCopy := nilz_Copy_Read none
  have mCopy := methodz_Copy_Read none
  go_wp2_with (first | (go_at_call 25; refine (step_z_Read none _ _ (.inl rfl)).mono ?_; rintro e w' ⟨rfl, rfl⟩) | (go_at_call 12; refine (done_z_Read none _ (.inl rfl)).mono ?_; rintro e w' ⟨rfl, rfl⟩) | (go_at_call 13; refine (result_z_Read none _ (.inl rfl)).mono ?_; rintro e w' ⟨rfl, rfl⟩) | (go_at_call 58; refine (copy_z_Read none _ (.inl rfl)).mono ?_; rintro e w' ⟨rfl, rfl⟩))
  clear nStep mStep nDone mDone nResult mResult nCopy mCopy
  change Code.wp _ _ _ _ _
  have nStep := nilz_Step_Read (some ⟨w2.heap.size, 0, none⟩)
  have mStep := methodz_Step_Read (some ⟨w2.heap.size, 0, none⟩)
  have nDone := nilz_Done_Read (some ⟨w2.heap.size, 0, none⟩)
  have mDone := methodz_Done_Read (some ⟨w2.heap.size, 0, none⟩)
  have nResult := nilz_Result_Read (some ⟨w2.heap.size, 0, none⟩)
  have mResult := methodz_Result_Read (some ⟨w2.heap.size, 0, none⟩)
  have nCopy := nilz_Copy_Read (some ⟨w2.heap.size, 0, none⟩)
  have mCopy := methodz_Copy_Read (some ⟨w2.heap.size, 0, none⟩)
  go_wp2_with (first | (go_at_call 25; refine (step_z_Read (some ⟨w2.heap.size, 0, none⟩) _ _ hZA).mono ?_; rintro e w' ⟨rfl, rfl⟩) | (go_at_call 12; refine (done_z_Read (some ⟨w2.heap.size, 0, none⟩) _ hZA).mono ?_; rintro e w' ⟨rfl, rfl⟩) | (go_at_call 13; refine (result_z_Read (some ⟨w2.heap.size, 0, none⟩) _ hZA).mono ?_; rintro e w' ⟨rfl, rfl⟩) | (go_at_call 58; refine (copy_z_Read (some ⟨w2.heap.size, 0, none⟩) _ hZA).mono ?_; rintro e w' ⟨rfl, rfl⟩))
  clear nStep mStep nDone mDone nResult mResult nCopy mCopy
  change Code.wp _ _ _ _ _
  have nStep := nilz_Step_Write none
  have mStep := methodz_Step_Write none
  have nDone := nilz_Done_Write none
  have mDone := methodz_Done_Write none
  have nResult := nilz_Result_Write none
  have mResult := methodz_Result_Write none
  have nCopy := nilz_Copy_Write none
  have mCopy := methodz_Copy_Write none
  go_wp2_with (first | (go_at_call 26; refine (step_z_Write none _ _ (.inl rfl)).mono ?_; rintro e w' ⟨rfl, rfl⟩) | (go_at_call 17; refine (done_z_Write none _ (.inl rfl)).mono ?_; rintro e w' ⟨rfl, rfl⟩) | (go_at_call 18; refine (result_z_Write none _ (.inl rfl)).mono ?_; rintro e w' ⟨rfl, rfl⟩) | (go_at_call 59; refine (copy_z_Write none _ (.inl rfl)).mono ?_; rintro e w' ⟨rfl, rfl⟩))
  clear nStep mStep nDone mDone nResult mResult nCopy mCopy
  change Code.wp _ _ _ _ _
  have nStep := nilz_Step_Write (some ⟨w2.heap.size + 1, 0, none⟩)
  have mStep := methodz_Step_Write (some ⟨w2.heap.size + 1, 0, none⟩)
  have nDone := nilz_Done_Write (some ⟨w2.heap.size + 1, 0, none⟩)
  have mDone := methodz_Done_Write (some ⟨w2.heap.size + 1, 0, none⟩)
  have nResult := nilz_Result_Write (some ⟨w2.heap.size + 1, 0, none⟩)
  have mResult := methodz_Result_Write (some ⟨w2.heap.size + 1, 0, none⟩)
  have nCopy := nilz_Copy_Write (some ⟨w2.heap.size + 1, 0, none⟩)
  have mCopy := methodz_Copy_Write (some ⟨w2.heap.size + 1, 0, none⟩)
  go_wp2_with (first | (go_at_call 26; refine (step_z_Write (some ⟨w2.heap.size + 1, 0, none⟩) _ _ hZR).mono ?_; rintro e w' ⟨rfl, rfl⟩) | (go_at_call 17; refine (done_z_Write (some ⟨w2.heap.size + 1, 0, none⟩) _ hZR).mono ?_; rintro e w' ⟨rfl, rfl⟩) | (go_at_call 18; refine (result_z_Write (some ⟨w2.heap.size + 1, 0, none⟩) _ hZR).mono ?_; rintro e w' ⟨rfl, rfl⟩) | (go_at_call 59; refine (copy_z_Write (some ⟨w2.heap.size + 1, 0, none⟩) _ hZR).mono ?_; rintro e w' ⟨rfl, rfl⟩))
  clear nStep mStep nDone mDone nResult mResult nCopy mCopy
  change Code.wp _ _ _ _ _
  go_wp2_with (first | (go_at_call 14; refine (words_nil _).mono ?_; rintro e w' ⟨rfl, rfl⟩) | (go_at_call 15; refine (version_nil _).mono ?_; rintro e w' ⟨rfl, rfl⟩) | (go_at_call 8; refine (known_ok _).mono ?_; rintro e w' ⟨rfl, hkb⟩))
  go_ret
  exact ⟨rfl, by (repeat' (first | (with_reducible exact Below.refl _ _) | (with_reducible assumption) | (with_reducible refine Below.alloc ?_ ?_ _) | (with_reducible refine Below.drew ?_) | (with_reducible refine below_drewN ?_ _) | (with_reducible refine Below.setCell ?_ ?_ _) | (with_reducible refine Below.trans ?_ (Below.mono (by assumption) ?_)) | (first | go_size | (with_reducible exact Below.size (by assumption)) | (with_reducible exact Nat.le_trans (Below.size (by assumption)) (Below.size (by assumption))) | (refine Nat.le_trans (Below.size (by assumption)) ?_; go_size))))⟩
end VersionNil
end Go.Proofs.Ytbhcgmiglkocbaa
