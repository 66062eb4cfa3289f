/-
  Contracts of package thread: nil and zero values.
-/
import Derived.Test.YtmbofohdjdipdaaLTh5
namespace Go.Proofs.Ytmbofohdjdipdaa
open Go.RowKit
def Zp (T : TypeId) (cs : List Value) (w : World) (p : Option Addr) : Prop := p = none ∨ ∃ b, p = some ⟨b, 0, none⟩ ∧ Blk w b T cs
theorem Zp.below {T : TypeId} {cs : List Value} {w w' : World} {p : Option Addr} (h : Zp T cs w p) (hb : Below w.heap.size w w') : Zp T cs w' p :=
  h.elim .inl fun ⟨b, e, hB⟩ => .inr ⟨b, e, hB.keep (Ch.of_below hb (fun _ => False)) (fun e => e)⟩
def zm : List Value := [.pointer none, .slice none 0 0]
def zc : List Value := [.slice none 0 0, .int .i64 0, .int .u64 0, .int .u64 0, .int .u64 0, .int .u64 0, .int .u64 0, .bool false]
abbrev Zm (w : World) (p : Option Addr) : Prop := Zp 91 zm w p
abbrev Zc (w : World) (p : Option Addr) : Prop := Zp 85 zc w p
theorem zzero (p : Option Addr) (w : World) (h : Zm w p) : Calls Try.prog 60 #[.pointer p] w fun e w' => e = .returned (.bool true) ∧ w = w' := by
  rcases h with rfl | ⟨q, rfl, h⟩
  · go_enter Try.func60, Try.ntmps60
    go_wp2
    go_ret
    exact ⟨rfl, rfl⟩
  · have c0 : w.cell? ⟨q, 0, none⟩ = some (.pointer none) := h.cell 0
    clear h
    go_enter Try.func60, Try.ntmps60
    go_wp2
    go_ret
    exact ⟨rfl, rfl⟩
theorem znone (p : Option Addr) (t : Int) (w : World) (h : Zm w p) : Calls Try.prog 61 #[.pointer p, .int .i64 t] w fun e w' => e = .returned (.bool true) ∧ w = w' := by
  have hz := zzero p w h
  go_enter Try.func61, Try.ntmps61
  go_wp2_with (go_at_call 60; refine hz.mono ?_; rintro e w1 ⟨rfl, rfl⟩)
  go_ret
  exact ⟨rfl, rfl⟩
theorem z_step (p : Option Addr) (t : Int) (w : World) (h : Zm w p) : Calls Try.prog 16 #[.pointer p, .int .i64 t] w fun e w' => e = .returned (.tuple #[didV 0 note0 false false, .int .i64 1]) ∧ Below w.heap.size w w' := by
  have hmz := fun W hW => zzero p W hW
  go_enter Try.func16, Try.ntmps16
  go_wp2_with (go_at_call 60; refine (hmz _ (h.below (by (repeat' (first | (with_reducible exact Below.refl _ _) | (with_reducible assumption) | (with_reducible refine Below.alloc ?_ ?_ _) | (with_reducible refine Below.drew ?_) | (with_reducible refine below_drewN ?_ _) | (with_reducible refine Below.setCell ?_ ?_ _) | (with_reducible refine Below.trans ?_ (Below.mono (by assumption) ?_)) | (first | go_size | (with_reducible exact Below.size (by assumption)) | (with_reducible exact Nat.le_trans (Below.size (by assumption)) (Below.size (by assumption))) | (refine Nat.le_trans (Below.size (by assumption)) ?_; go_size))))))).mono ?_; rintro e w1 ⟨rfl, rfl⟩)
  refine bodyPost_ret (v := .tuple #[didV 0 note0 false false, .int .i64 1]) (by simp [results, go_sem]) rfl ?_
  exact ⟨rfl, by (repeat' (first | (with_reducible exact Below.refl _ _) | (with_reducible assumption) | (with_reducible refine Below.alloc ?_ ?_ _) | (with_reducible refine Below.drew ?_) | (with_reducible refine below_drewN ?_ _) | (with_reducible refine Below.setCell ?_ ?_ _) | (with_reducible refine Below.trans ?_ (Below.mono (by assumption) ?_)) | (first | go_size | (with_reducible exact Below.size (by assumption)) | (with_reducible exact Nat.le_trans (Below.size (by assumption)) (Below.size (by assumption))) | (refine Nat.le_trans (Below.size (by assumption)) ?_; go_size))))⟩
theorem z_run (p : Option Addr) (v : Value) (w : World) (h : Zm w p) : Calls Try.prog 18 #[.pointer p, v] w fun e w' => e = .returned (.tuple #[.slice none 0 0, .int .i64 1]) ∧ w = w' := by
  have hz := zzero p w h
  go_enter Try.func18, Try.ntmps18
  go_wp2_with (go_at_call 60; refine hz.mono ?_; rintro e w1 ⟨rfl, rfl⟩)
  go_ret2
  exact ⟨rfl, rfl⟩
theorem z_waits (p : Option Addr) (t : Int) (w : World) (h : Zm w p) : Calls Try.prog 36 #[.pointer p, .int .i64 t] w fun e w' => e = .returned (.bool false) ∧ w = w' := by
  have hz := znone p t w h
  go_enter Try.func36, Try.ntmps36
  go_wp2_with (go_at_call 61; refine hz.mono ?_; rintro e w1 ⟨rfl, rfl⟩)
  go_ret
  exact ⟨rfl, rfl⟩
theorem z_threads (p : Option Addr) (w : World) (h : Zm w p) : Calls Try.prog 38 #[.pointer p] w fun e w' => e = .returned (.int .i64 0) ∧ w = w' := by
  have hz := zzero p w h
  go_enter Try.func38, Try.ntmps38
  go_wp2_with (go_at_call 60; refine hz.mono ?_; rintro e w1 ⟨rfl, rfl⟩)
  go_ret
  exact ⟨rfl, rfl⟩
theorem z_stuck (p : Option Addr) (w : World) (h : Zm w p) : Calls Try.prog 37 #[.pointer p] w fun e w' => e = .returned (.bool false) ∧ w = w' := by
  have hth := z_threads p w h
  go_enter Try.func37, Try.ntmps37
  go_wp2_with (go_at_call 38; refine hth.mono ?_; rintro e w1 ⟨rfl, rfl⟩)
  go_loopw [3, 7] (fun v3 v7 wr => v3 = .bool false ∧ v7 = .int .i64 0 ∧ wr = w) (fun _ _ _ => 0)
  case atStart => exact ⟨rfl, rfl, rfl⟩
  case round =>
    obtain ⟨rfl, rfl, rfl⟩ := hrel
    go_wp2
    go_ret
    exact ⟨rfl, rfl⟩
theorem z_done (p : Option Addr) (t : Int) (w : World) (h : Zm w p) : Calls Try.prog 28 #[.pointer p, .int .i64 t] w fun e w' => e = .returned (.bool false) ∧ w = w' := by
  have hz := znone p t w h
  go_enter Try.func28, Try.ntmps28
  go_wp2_with (go_at_call 61; refine hz.mono ?_; rintro e w1 ⟨rfl, rfl⟩)
  go_ret
  exact ⟨rfl, rfl⟩
theorem z_result (p : Option Addr) (t : Int) (w : World) (h : Zm w p) : Calls Try.prog 29 #[.pointer p, .int .i64 t] w fun e w' => e = .returned (.int .u64 0) ∧ w = w' := by
  have hz := znone p t w h
  go_enter Try.func29, Try.ntmps29
  go_wp2_with (go_at_call 61; refine hz.mono ?_; rintro e w1 ⟨rfl, rfl⟩)
  go_ret
  exact ⟨rfl, rfl⟩
theorem z_steps (p : Option Addr) (t : Int) (w : World) (h : Zm w p) : Calls Try.prog 27 #[.pointer p, .int .i64 t] w fun e w' => e = .returned (.int .i64 0) ∧ w = w' := by
  have hz := znone p t w h
  go_enter Try.func27, Try.ntmps27
  go_wp2_with (go_at_call 61; refine hz.mono ?_; rintro e w1 ⟨rfl, rfl⟩)
  go_ret
  exact ⟨rfl, rfl⟩
theorem z_looks (p : Option Addr) (t : Int) (w : World) (h : Zm w p) : Calls Try.prog 39 #[.pointer p, .int .i64 t] w fun e w' => e = .returned (.int .i64 0) ∧ w = w' := by
  have hz := znone p t w h
  go_enter Try.func39, Try.ntmps39
  go_wp2_with (go_at_call 61; refine hz.mono ?_; rintro e w1 ⟨rfl, rfl⟩)
  go_ret
  exact ⟨rfl, rfl⟩
theorem z_program (p : Option Addr) (t : Int) (w : World) (h : Zm w p) : Calls Try.prog 40 #[.pointer p, .int .i64 t] w fun e w' => e = .returned (.nilIface) ∧ w = w' := by
  have hz := znone p t w h
  go_enter Try.func40, Try.ntmps40
  go_wp2_with (go_at_call 61; refine hz.mono ?_; rintro e w1 ⟨rfl, rfl⟩)
  go_ret
  exact ⟨rfl, rfl⟩
theorem z_mem (p : Option Addr) (w : World) (h : Zm w p) : Calls Try.prog 41 #[.pointer p] w fun e w' => e = .returned (.pointer none) ∧ w = w' := by
  have hz := zzero p w h
  go_enter Try.func41, Try.ntmps41
  go_wp2_with (go_at_call 60; refine hz.mono ?_; rintro e w1 ⟨rfl, rfl⟩)
  go_ret
  exact ⟨rfl, rfl⟩
theorem z_copy (p : Option Addr) (w : World) (h : Zm w p) : Calls Try.prog 20 #[.pointer p] w fun e w' => e = .returned (.pointer none) ∧ w = w' := by
  have hz := zzero p w h
  go_enter Try.func20, Try.ntmps20
  go_wp2_with (go_at_call 60; refine hz.mono ?_; rintro e w1 ⟨rfl, rfl⟩)
  go_ret
  exact ⟨rfl, rfl⟩
theorem z_add (p : Option Addr) (d : Pif) (fs : List Nat) (x : Pg) (w : World) (h : Zm w p) (hp : ProgAt w d fs x) : Calls Try.prog 21 #[.pointer p, d.v] w fun e w' => e = .returned (.tuple #[.int .i64 0, .int .i64 1]) ∧ Below w.heap.size w w' := by
  have hcp := copied_prog hp
  go_enter Try.func21, Try.ntmps21
  go_wp2_with (first | (go_at_call 65; refine hcp.mono ?_; rintro e w6 ⟨hb6, d2, fs2, rfl, hp6, hf6⟩; have h6 := h.below hb6) | (go_at_call 60; refine (zzero p _ h6).mono ?_; rintro e w1 ⟨rfl, rfl⟩))
  go_ret2
  exact ⟨rfl, hb6⟩
theorem z_put (p : Option Addr) (t : Int) (d : Pif) (fs : List Nat) (x : Pg) (w : World) (h : Zm w p) (hp : ProgAt w d fs x) : Calls Try.prog 35 #[.pointer p, .int .i64 t, d.v] w fun e w' => e = .returned (.int .i64 1) ∧ Below w.heap.size w w' := by
  have hcp := copied_prog hp
  go_enter Try.func35, Try.ntmps35
  go_wp2_with (first | (go_at_call 65; refine hcp.mono ?_; rintro e w6 ⟨hb6, d2, fs2, rfl, hp6, hf6⟩; have h6 := h.below hb6) | (go_at_call 60; refine (zzero p _ h6).mono ?_; rintro e w1 ⟨rfl, rfl⟩))
  go_ret
  exact ⟨rfl, hb6⟩
theorem zc_step (p : Option Addr) (b : Nat) (w : World) (h : Zc w p) : Calls Try.prog 31 #[.pointer p, .iface 26 (.pointer (some ⟨b, 0, none⟩))] w fun e w' => e = .returned (.tuple #[.bool false, .int .i64 1]) ∧ w = w' := by
  rcases h with rfl | ⟨q, rfl, h⟩
  · go_enter Try.func31, Try.ntmps31
    go_wp2
    go_ret2
    exact ⟨rfl, rfl⟩
  · have c0 : w.cell? ⟨q, 0, none⟩ = some (.slice none 0 0) := h.cell 0
    clear h
    go_enter Try.func31, Try.ntmps31
    go_wp2
    go_ret2
    exact ⟨rfl, rfl⟩
theorem zc_done (p : Option Addr) (w : World) (h : Zc w p) : Calls Try.prog 32 #[.pointer p] w fun e w' => e = .returned (.bool true) ∧ w = w' := by
  rcases h with rfl | ⟨q, rfl, h⟩
  · go_enter Try.func32, Try.ntmps32
    go_wp2
    go_ret
    exact ⟨rfl, rfl⟩
  · have c0 : w.cell? ⟨q, 0, none⟩ = some (.slice none 0 0) := h.cell 0
    have c7 : w.cell? ⟨q, 7, none⟩ = some (.bool false) := h.cell 7
    clear h
    go_enter Try.func32, Try.ntmps32
    go_wp2
    go_ret
    exact ⟨rfl, rfl⟩
theorem zc_result (p : Option Addr) (w : World) (h : Zc w p) : Calls Try.prog 33 #[.pointer p] w fun e w' => e = .returned (.int .u64 0) ∧ w = w' := by
  rcases h with rfl | ⟨q, rfl, h⟩
  · go_enter Try.func33, Try.ntmps33
    go_wp2
    go_ret
    exact ⟨rfl, rfl⟩
  · have c6 : w.cell? ⟨q, 6, none⟩ = some (.int .u64 0) := h.cell 6
    clear h
    go_enter Try.func33, Try.ntmps33
    go_wp2
    go_ret
    exact ⟨rfl, rfl⟩
theorem zc_copy (p : Option Addr) (w : World) (h : Zc w p) : Calls Try.prog 34 #[.pointer p] w fun e w' => e = .returned (.nilIface) ∧ w = w' := by
  rcases h with rfl | ⟨q, rfl, h⟩
  · go_enter Try.func34, Try.ntmps34
    go_wp2
    go_ret
    exact ⟨rfl, rfl⟩
  · have c0 : w.cell? ⟨q, 0, none⟩ = some (.slice none 0 0) := h.cell 0
    clear h
    go_enter Try.func34, Try.ntmps34
    go_wp2
    go_ret
    exact ⟨rfl, rfl⟩
end Go.Proofs.Ytmbofohdjdipdaa
