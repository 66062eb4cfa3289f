/-
  Contracts over package version: any step of a writer; many steps of a program, as the law's ends and steps make them.
-/
import Derived.Test.YtbhcgmiglkocbaaVer4
namespace Go.Proofs.Ytbhcgmiglkocbaa
open Go.RowKit

theorem wstep_any (B r : Nat) (v f : Int) (A : Option Addr) (cl : Nat) (xs : List Int) (s : Ws) (b g c : Nat) (ws : List Int) (w : World) (h : WrAt B w r v f A cl xs s) (hm : MemAt w b g c ws) (hg : g < B ∨ r ≤ g) :
    Calls Try.prog 26 #[.pointer (some ⟨r, 0, none⟩), memI b] w (WrP B w r v f A cl xs b g c (wstp v f xs s ws)) := by
  unfold wstp
  by_cases he : s.ed = true
  · rw [if_pos he]
    exact ws_end B r v f A cl xs s b g c ws w h hm he
  rw [if_neg he]
  have hed : s.ed = false := by simpa using he
  by_cases h0 : s.st = 0
  · rw [if_pos h0]
    by_cases hE : doE ws 1 v = 0
    · rw [if_pos hE]
      by_cases hx : doB ws 1 v % 2 = 1
      · rw [if_pos hx]
        exact w0_odd B r v f A cl xs s b g c ws w h hm hg hed h0 hE hx
      · rw [if_neg hx]
        exact w0_ok B r v f A cl xs s b g c ws w h hm hg hed h0 hE (by omega)
    · rw [if_neg hE]
      exact w0_err B r v f A cl xs s b g c ws w h hm hg hed h0 hE
  rw [if_neg h0]
  by_cases h1 : s.st = 1
  · rw [if_pos h1]
    by_cases hE : doE ws 2 v = 0
    · rw [if_pos hE]
      exact w1_ok B r v f A cl xs s b g c ws w h hm hg hed h1 hE
    · rw [if_neg hE]
      exact w1_err B r v f A cl xs s b g c ws w h hm hg hed h1 hE
  rw [if_neg h1]
  by_cases h2 : s.st - 2 < xs.length
  · rw [if_pos h2]
    by_cases hE : doE ws 2 (f + ((s.st - 2 : Nat) : Int)) = 0
    · rw [if_pos hE]
      exact w2_ok B r v f A cl xs s b g c ws w h hm hg hed ⟨by omega, h2⟩ hE
    · rw [if_neg hE]
      exact w2_err B r v f A cl xs s b g c ws w h hm hg hed ⟨by omega, h2⟩ hE
  rw [if_neg h2]
  have h3 : s.st = xs.length + 2 := by have := h.fin hed; omega
  by_cases hE : doE ws 2 v = 0
  · rw [if_pos hE]
    have := w3_ok B r v f A cl xs s b g c ws w h hm hg hed ⟨by omega, h2⟩ hE
    rwa [show xs.length + 3 = s.st + 1 by omega] at this
  · rw [if_neg hE]
    exact w3_err B r v f A cl xs s b g c ws w h hm hg hed ⟨by omega, h2⟩ hE

/-! ### many steps -/
def wit (v f : Int) (xs : List Int) (s : Ws) (ws : List Int) : Nat → Ws × List Int
  | 0 => (s, ws)
  | k + 1 => ((wstp v f xs (wit v f xs s ws k).1 (wit v f xs s ws k).2).s, (wstp v f xs (wit v f xs s ws k).1 (wit v f xs s ws k).2).ws)
def wOk (v f : Int) (xs : List Int) (s : Ws) (ws : List Int) (i : Nat) : Bool := (wstp v f xs (wit v f xs s ws i).1 (wit v f xs s ws i).2).e == 0
def wEnd (v f : Int) (xs : List Int) (s : Ws) (ws : List Int) (i : Nat) : Bool := (wit v f xs s ws i).1.ed
def rit (v f n : Int) (s : Rs) (ws : List Int) : Nat → Rs
  | 0 => s
  | k + 1 => (rstp v f n (rit v f n s ws k) ws).s
def rOk (v f n : Int) (s : Rs) (ws : List Int) (i : Nat) : Bool := (rstp v f n (rit v f n s ws i) ws).e == 0 && !(rstp v f n (rit v f n s ws i) ws).wt
def rEnd (v f n : Int) (s : Rs) (ws : List Int) (i : Nat) : Bool := (rit v f n s ws i).ed

theorem nil_Step_Write (r : Nat) (w : World) : (nilAhead 218 33 (.pointer (some ⟨r, 0, none⟩)) "Step").run Try.prog w = .ok (some false) w := by kernel_rfl
theorem method_Step_Write (r : Nat) (w : World) : (method 218 33 (.pointer (some ⟨r, 0, none⟩)) "Step").run Try.prog w = .ok (26, .pointer (some ⟨r, 0, none⟩)) w := by kernel_rfl
theorem nil_Done_Write (r : Nat) (w : World) : (nilAhead 218 33 (.pointer (some ⟨r, 0, none⟩)) "Done").run Try.prog w = .ok (some false) w := by kernel_rfl
theorem method_Done_Write (r : Nat) (w : World) : (method 218 33 (.pointer (some ⟨r, 0, none⟩)) "Done").run Try.prog w = .ok (17, .pointer (some ⟨r, 0, none⟩)) w := by kernel_rfl
theorem nil_Step_Read (r : Nat) (w : World) : (nilAhead 218 26 (.pointer (some ⟨r, 0, none⟩)) "Step").run Try.prog w = .ok (some false) w := by kernel_rfl
theorem method_Step_Read (r : Nat) (w : World) : (method 218 26 (.pointer (some ⟨r, 0, none⟩)) "Step").run Try.prog w = .ok (25, .pointer (some ⟨r, 0, none⟩)) w := by kernel_rfl
theorem nil_Done_Read (r : Nat) (w : World) : (nilAhead 218 26 (.pointer (some ⟨r, 0, none⟩)) "Done").run Try.prog w = .ok (some false) w := by kernel_rfl
theorem method_Done_Read (r : Nat) (w : World) : (method 218 26 (.pointer (some ⟨r, 0, none⟩)) "Done").run Try.prog w = .ok (12, .pointer (some ⟨r, 0, none⟩)) w := by kernel_rfl
abbrev wrI (r : Nat) : Value := .iface 33 (.pointer (some ⟨r, 0, none⟩))
abbrev rdI (r : Nat) : Value := .iface 26 (.pointer (some ⟨r, 0, none⟩))

/-- a writer and an arena, as they stand behind some steps -/
def WSt (B : Nat) (w : World) (r : Nat) (v f : Int) (A : Option Addr) (cl : Nat) (xs : List Int) (b g c : Nat) (p : Ws × List Int) (w' : World) : Prop :=
  WrAt B w' r v f A cl xs p.1 ∧ MemAt w' b g c p.2 ∧ Ch (fun j => j = r ∨ j = g) w w'
set_option maxHeartbeats 1000000 in
theorem wends_ok (B r : Nat) (v f : Int) (A : Option Addr) (cl : Nat) (xs : List Int) (s : Ws) (b g c : Nat) (ws : List Int) (k : Nat) (w : World) (h : WrAt B w r v f A cl xs s) (hm : MemAt w b g c ws) (hg : g < B ∨ r ≤ g)
    (hk : 1 ≤ k) (hk2 : k ≤ 300) (ho : ∀ i, i < k → wOk v f xs s ws i = true) (he : ∀ i, i < k → wEnd v f xs s ws i = false) (hek : wEnd v f xs s ws k = true) :
    Calls Try.prog 20 #[wrI r, .pointer (some ⟨b, 0, none⟩)] w fun e w' => e = .returned (.int .i64 k) ∧ WSt B w r v f A cl xs b g c (wit v f xs s ws k) w' := by
  have z1 := nil_Step_Write r
  have z2 := method_Step_Write r
  have z3 := nil_Done_Write r
  have z4 := method_Done_Write r
  have HO := Lib.hid ho
  have HE := Lib.hid he
  have HK := Lib.hid hek
  clear ho he hek
  go_enter Try.func20, Try.ntmps20
  go_wp2_with fail
  go_loopw [5] (fun v5 wr => ∃ i : Nat, v5 = .int .i64 ((i : Int) + 1) ∧ i < k ∧ WSt B w r v f A cl xs b g c (wit v f xs s ws i) wr) (fun v _ => 301 - (intOf v).toNat)
  case atStart => exact ⟨0, rfl, by omega, h, hm, Ch.refl _ _⟩
  case round =>
    clear h hm
    obtain ⟨i, rfl, hi, hW, hM, hC⟩ := hrel
    have hst := wstep_any B r v f A cl xs (wit v f xs s ws i).1 b g c (wit v f xs s ws i).2 wr hW hM hg
    have hoi := HO.out i hi
    unfold wOk at hoi
    rw [beq_iff_eq] at hoi
    have hnx : wit v f xs s ws (i + 1) = ((wstp v f xs (wit v f xs s ws i).1 (wit v f xs s ws i).2).s, (wstp v f xs (wit v f xs s ws i).1 (wit v f xs s ws i).2).ws) := rfl
    generalize wstp v f xs (wit v f xs s ws i).1 (wit v f xs s ws i).2 = o at *
    unfold WrP at hst
    rw [hoi] at hst
    have HN := Lib.hid hnx
    have i1 : (0 : Int) ≤ i := Int.natCast_nonneg _
    have i2 : (i : Int) + 1 ≤ 300 := by omega
    clear hoi hnx hW hM
    go_wp2_with fail
    refine hst.mono ?_
    rintro e w2 ⟨rfl, k1, k2, k3⟩
    have hdn := wdone_any B r v f A cl xs o.s w2 k1
    have hC2 : Ch (fun j => j = r ∨ j = g) w w2 := hC.trans k3 (fun _ _ e => e)
    have hS2 : WSt B w r v f A cl xs b g c (wit v f xs s ws (i + 1)) w2 := by rw [HN.out]; exact ⟨k1, k2, hC2⟩
    have HS2 := Lib.hid hS2
    clear hst hC hS2 k1 k2 k3 hC2
    by_cases hl : i + 1 = k
    · have hed : o.s.ed = true := by have := HK.out; unfold wEnd at this; rw [← hl, HN.out] at this; exact this
      rw [hed] at hdn
      have HL := Lib.hid hl
      clear hl hed
      go_wp2_with (go_at_call 17; refine hdn.mono ?_; rintro e w' ⟨rfl, rfl⟩)
      go_ret
      exact ⟨by rw [← HL.out]; exact ret_int (by omega), by rw [← HL.out]; exact HS2.out⟩
    · have hed : o.s.ed = false := by have := HE.out (i + 1) (by omega); unfold wEnd at this; rw [HN.out] at this; exact this
      rw [hed] at hdn
      have hlt : i + 1 < k := by omega
      clear hl hed
      go_wp2_with (go_at_call 17; refine hdn.mono ?_; rintro e w' ⟨rfl, rfl⟩)
      go_roundw
      case rel => exact ⟨i + 1, by first | rfl | exact val_int (by omega), hlt, HS2.out⟩
      case measure => simp [intOf]; omega
set_option maxHeartbeats 1000000 in
theorem wsteps_ok (B r : Nat) (v f : Int) (A : Option Addr) (cl : Nat) (xs : List Int) (s : Ws) (b g c : Nat) (ws : List Int) (k : Nat) (k' : Int) (ek : k' = k) (w : World) (h : WrAt B w r v f A cl xs s) (hm : MemAt w b g c ws) (hg : g < B ∨ r ≤ g)
    (hk2 : k ≤ 300) (ho : ∀ i, i < k → wOk v f xs s ws i = true) :
    Calls Try.prog 23 #[wrI r, .pointer (some ⟨b, 0, none⟩), .int .i64 k'] w fun e w' => e = .returned (.bool true) ∧ WSt B w r v f A cl xs b g c (wit v f xs s ws k) w' := by
  subst ek
  have z1 := nil_Step_Write r
  have z2 := method_Step_Write r
  have HO := Lib.hid ho
  clear ho
  go_enter Try.func23, Try.ntmps23
  go_wp2_with fail
  go_loopw [7] (fun v5 wr => ∃ i : Nat, v5 = .int .i64 i ∧ i ≤ k ∧ WSt B w r v f A cl xs b g c (wit v f xs s ws i) wr) (fun v _ => k - (intOf v).toNat)
  case atStart => exact ⟨0, rfl, by omega, h, hm, Ch.refl _ _⟩
  case round =>
    clear h hm
    obtain ⟨i, rfl, hi, hW, hM, hC⟩ := hrel
    by_cases hlt : i < k
    · have hst := wstep_any B r v f A cl xs (wit v f xs s ws i).1 b g c (wit v f xs s ws i).2 wr hW hM hg
      have hoi := HO.out i hlt
      unfold wOk at hoi
      rw [beq_iff_eq] at hoi
      have hnx : wit v f xs s ws (i + 1) = ((wstp v f xs (wit v f xs s ws i).1 (wit v f xs s ws i).2).s, (wstp v f xs (wit v f xs s ws i).1 (wit v f xs s ws i).2).ws) := rfl
      generalize wstp v f xs (wit v f xs s ws i).1 (wit v f xs s ws i).2 = o at *
      unfold WrP at hst
      rw [hoi] at hst
      have HN := Lib.hid hnx
      have i1 : (0 : Int) ≤ i := Int.natCast_nonneg _
      clear hoi hnx hW hM
      go_wp2_with fail
      refine hst.mono ?_
      rintro e w2 ⟨rfl, k1, k2, k3⟩
      have hC2 : Ch (fun j => j = r ∨ j = g) w w2 := hC.trans k3 (fun _ _ e => e)
      have hS2 : WSt B w r v f A cl xs b g c (wit v f xs s ws (i + 1)) w2 := by rw [HN.out]; exact ⟨k1, k2, hC2⟩
      have HS2 := Lib.hid hS2
      clear hst hC hS2 k1 k2 k3 hC2
      go_wp2_with fail
      go_roundw
      case rel => exact ⟨i + 1, by go_num, by omega, HS2.out⟩
      case measure => simp [intOf]; omega
    · obtain rfl : i = k := by omega
      have HS := Lib.hid (show WSt B w r v f A cl xs b g c (wit v f xs s ws i) wr from ⟨hW, hM, hC⟩)
      clear hW hM hC
      go_wp2_with fail
      go_ret
      exact ⟨rfl, HS.out⟩

/-- a reader and an arena, as they stand behind some steps -/
def RSt (B : Nat) (w : World) (r : Nat) (v f n : Int) (lv : Value) (b g c : Nat) (ws : List Int) (s : Rs) (w' : World) : Prop :=
  ∃ lv', RdAt B w' r v f n s lv' ∧ MemAt w' b g c ws ∧ Ch (fun j => j = r ∨ j = g ∨ lv.ownBlock = some j) w w' ∧ (lv'.ownBlock = lv.ownBlock ∨ lv'.ownBlock = none ∨ ∃ k, lv'.ownBlock = some k ∧ w.heap.size ≤ k) ∧ lv'.ownBlock ≠ some g
theorem RSt.next {B : Nat} {w w1 w2 : World} {r : Nat} {v f n : Int} {lv lv1 : Value} {b g c : Nat} {ws : List Int} {o : RO} {e : Ending} (hC : Ch (fun j => j = r ∨ j = g ∨ lv.ownBlock = some j) w w1) (hM : MemAt w1 b g c ws) (ha : lv1.ownBlock = lv.ownBlock ∨ lv1.ownBlock = none ∨ ∃ k, lv1.ownBlock = some k ∧ w.heap.size ≤ k) (hg : lv1.ownBlock ≠ some g)
    (h : RdP B w1 r v f n b g c ws o lv1 e w2) : e = .returned (.tuple #[.bool o.wt, .int .i64 o.e]) ∧ RSt B w r v f n lv b g c ws o.s w2 := by
  obtain ⟨lv2, k0, k1, k2, k3, k4⟩ := h
  refine ⟨k0, lv2, k1, k2, hC.trans k3 (fun j hj e => ?_), ?_, ?_⟩
  · rcases e with e | e | e
    · exact .inl e
    · exact .inr (.inl e)
    · rcases ha with ha | ha | ⟨k, ha, hk⟩
      · rw [ha] at e; exact .inr (.inr e)
      · rw [ha] at e; cases e
      · rw [ha] at e; injection e with e; omega
  · rcases k4 with k4 | k4 | ⟨k, k4, hk⟩
    · rw [k4]; exact ha
    · exact .inr (.inl k4)
    · exact .inr (.inr ⟨k, k4, Nat.le_trans hC.size hk⟩)
  · rcases k4 with k4 | k4 | ⟨k, k4, hk⟩
    · rw [k4]; exact hg
    · rw [k4]; intro e; cases e
    · rw [k4]; intro e; injection e with e; have := hM.lt; omega
set_option maxHeartbeats 1000000 in
theorem rends_ok (B r : Nat) (v f n : Int) (s : Rs) (lv : Value) (b g c : Nat) (ws : List Int) (k : Nat) (w : World) (h : RdAt B w r v f n s lv) (hm : MemAt w b g c ws) (hg : lv.ownBlock ≠ some g)
    (hk : 1 ≤ k) (hk2 : k ≤ 300) (ho : ∀ i, i < k → rOk v f n s ws i = true) (he : ∀ i, i < k → rEnd v f n s ws i = false) (hek : rEnd v f n s ws k = true) :
    Calls Try.prog 20 #[rdI r, .pointer (some ⟨b, 0, none⟩)] w fun e w' => e = .returned (.int .i64 k) ∧ RSt B w r v f n lv b g c ws (rit v f n s ws k) w' := by
  have z1 := nil_Step_Read r
  have z2 := method_Step_Read r
  have z3 := nil_Done_Read r
  have z4 := method_Done_Read r
  have HO := Lib.hid ho
  have HE := Lib.hid he
  have HK := Lib.hid hek
  clear ho he hek
  go_enter Try.func20, Try.ntmps20
  go_wp2_with fail
  go_loopw [5] (fun v5 wr => ∃ i : Nat, v5 = .int .i64 ((i : Int) + 1) ∧ i < k ∧ RSt B w r v f n lv b g c ws (rit v f n s ws i) wr) (fun v _ => 301 - (intOf v).toNat)
  case atStart => exact ⟨0, rfl, by omega, lv, h, hm, Ch.refl _ _, .inl rfl, hg⟩
  case round =>
    clear h hm
    obtain ⟨i, rfl, hi, lv1, hR, hM, hC, ha, hg1⟩ := hrel
    have hst := rstep_any B r v f n (rit v f n s ws i) lv1 b g c ws wr hR hM hg1
    have hoi := HO.out i hi
    unfold rOk at hoi
    have hnx : rit v f n s ws (i + 1) = (rstp v f n (rit v f n s ws i) ws).s := rfl
    generalize rstp v f n (rit v f n s ws i) ws = o at *
    have ho1 : o.e = 0 := by simp at hoi; exact hoi.1
    have ho2 : o.wt = false := by simp at hoi; exact hoi.2
    have hst2 := hst.mono (fun e w2 h => RSt.next hC hM ha hg1 h)
    rw [ho1, ho2] at hst2
    have HN := Lib.hid hnx
    have i1 : (0 : Int) ≤ i := Int.natCast_nonneg _
    have i2 : (i : Int) + 1 ≤ 300 := by omega
    clear hoi hnx hR hM hst ho1 ho2 hC ha hg1
    go_wp2_with fail
    refine hst2.mono ?_
    rintro e w2 ⟨rfl, hS⟩
    have hdn : Calls Try.prog 12 #[.pointer (some ⟨r, 0, none⟩)] w2 fun e w' => e = .returned (.bool o.s.ed) ∧ w2 = w' := by
      obtain ⟨lv2, k1, _⟩ := hS
      exact rdone_any B r v f n o.s lv2 w2 k1
    have HS2 := Lib.hid hS
    clear hst2 hS
    by_cases hl : i + 1 = k
    · have hed : o.s.ed = true := by have := HK.out; unfold rEnd at this; rw [← hl, HN.out] at this; exact this
      rw [hed] at hdn
      have HL := Lib.hid hl
      clear hl hed
      go_wp2_with (go_at_call 12; refine hdn.mono ?_; rintro e w' ⟨rfl, rfl⟩)
      go_ret
      exact ⟨by rw [← HL.out]; exact ret_int (by omega), by rw [← HL.out, HN.out]; exact HS2.out⟩
    · have hed : o.s.ed = false := by have := HE.out (i + 1) (by omega); unfold rEnd at this; rw [HN.out] at this; exact this
      rw [hed] at hdn
      have hlt : i + 1 < k := by omega
      clear hl hed
      go_wp2_with (go_at_call 12; refine hdn.mono ?_; rintro e w' ⟨rfl, rfl⟩)
      go_roundw
      case rel => exact ⟨i + 1, by first | rfl | exact val_int (by omega), hlt, by rw [HN.out]; exact HS2.out⟩
      case measure => simp [intOf]; omega
set_option maxHeartbeats 1000000 in
theorem rsteps_ok (B r : Nat) (v f n : Int) (s : Rs) (lv : Value) (b g c : Nat) (ws : List Int) (k : Nat) (k' : Int) (ek : k' = k) (w : World) (h : RdAt B w r v f n s lv) (hm : MemAt w b g c ws) (hg : lv.ownBlock ≠ some g)
    (hk2 : k ≤ 300) (ho : ∀ i, i < k → rOk v f n s ws i = true) :
    Calls Try.prog 23 #[rdI r, .pointer (some ⟨b, 0, none⟩), .int .i64 k'] w fun e w' => e = .returned (.bool true) ∧ RSt B w r v f n lv b g c ws (rit v f n s ws k) w' := by
  subst ek
  have z1 := nil_Step_Read r
  have z2 := method_Step_Read r
  have HO := Lib.hid ho
  clear ho
  go_enter Try.func23, Try.ntmps23
  go_wp2_with fail
  go_loopw [7] (fun v5 wr => ∃ i : Nat, v5 = .int .i64 i ∧ i ≤ k ∧ RSt B w r v f n lv b g c ws (rit v f n s ws i) wr) (fun v _ => k - (intOf v).toNat)
  case atStart => exact ⟨0, rfl, by omega, lv, h, hm, Ch.refl _ _, .inl rfl, hg⟩
  case round =>
    clear h hm
    obtain ⟨i, rfl, hi, lv1, hR, hM, hC, ha, hg1⟩ := hrel
    by_cases hlt : i < k
    · have hst := rstep_any B r v f n (rit v f n s ws i) lv1 b g c ws wr hR hM hg1
      have hoi := HO.out i hlt
      unfold rOk at hoi
      have hnx : rit v f n s ws (i + 1) = (rstp v f n (rit v f n s ws i) ws).s := rfl
      generalize rstp v f n (rit v f n s ws i) ws = o at *
      have ho1 : o.e = 0 := by simp at hoi; exact hoi.1
      have ho2 : o.wt = false := by simp at hoi; exact hoi.2
      have hst2 := hst.mono (fun e w2 h => RSt.next hC hM ha hg1 h)
      rw [ho1, ho2] at hst2
      have HN := Lib.hid hnx
      have i1 : (0 : Int) ≤ i := Int.natCast_nonneg _
      clear hoi hnx hR hM hst ho1 ho2 hC ha hg1
      go_wp2_with fail
      refine hst2.mono ?_
      rintro e w2 ⟨rfl, hS⟩
      have HS2 := Lib.hid hS
      clear hst2 hS
      go_wp2_with fail
      go_roundw
      case rel => exact ⟨i + 1, by go_num, by omega, by rw [HN.out]; exact HS2.out⟩
      case measure => simp [intOf]; omega
    · obtain rfl : i = k := by omega
      have HS := Lib.hid (show RSt B w r v f n lv b g c ws (rit v f n s ws i) wr from ⟨lv1, hR, hM, hC, ha, hg1⟩)
      clear hR hM hC ha hg1
      go_wp2_with fail
      go_ret
      exact ⟨rfl, HS.out⟩
end Go.Proofs.Ytbhcgmiglkocbaa
