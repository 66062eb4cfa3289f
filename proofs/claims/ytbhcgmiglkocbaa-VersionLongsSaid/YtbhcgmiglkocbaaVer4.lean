/-
  Contracts of package version: a writer's step.
-/
import Derived.Test.YtbhcgmiglkocbaaVer3
namespace Go.Proofs.Ytbhcgmiglkocbaa
open Go.RowKit

theorem wrap_bd (x : Int) : 0 ≤ IntKind.u64.wrap x ∧ IntKind.u64.wrap x ≤ 18446744073709551615 := by
  simp only [IntKind.wrap, IntKind.bits, IntKind.signed]
  constructor
  · have := Int.emod_nonneg x (b := 18446744073709551616) (by omega)
    simp; omega
  · have := Int.emod_lt_of_pos x (b := 18446744073709551616) (by omega)
    simp; omega
structure WO where
  s : Ws
  ws : List Int
  e : Int
def WrP (B : Nat) (w : World) (r : Nat) (v f : Int) (A : Option Addr) (cl : Nat) (xs : List Int) (b g c : Nat) (o : WO) (e : Ending) (w' : World) : Prop :=
  e = .returned (.tuple #[.bool false, .int .i64 o.e]) ∧ WrAt B w' r v f A cl xs o.s ∧ MemAt w' b g c o.ws ∧ Ch (fun j => j = r ∨ j = g) w w'
def wstp (v f : Int) (xs : List Int) (s : Ws) (ws : List Int) : WO :=
  if s.ed = true then ⟨s, ws, 17⟩
  else if s.st = 0 then (if doE ws 1 v = 0 then (if doB ws 1 v % 2 = 1 then ⟨{ s with fst := doB ws 1 v }, ws, 8⟩ else ⟨{ s with fst := doB ws 1 v, st := 1 }, ws, 0⟩) else ⟨{ s with fst := doB ws 1 v }, ws, doE ws 1 v⟩)
  else if s.st = 1 then (if doE ws 2 v = 0 then ⟨{ s with st := 2 }, doWs ws 2 v 0 (IntKind.u64.wrap (s.fst + 1)), 0⟩ else ⟨s, doWs ws 2 v 0 (IntKind.u64.wrap (s.fst + 1)), doE ws 2 v⟩)
  else if s.st - 2 < xs.length then (if doE ws 2 (f + ((s.st - 2 : Nat) : Int)) = 0 then ⟨{ s with st := s.st + 1 }, doWs ws 2 (f + ((s.st - 2 : Nat) : Int)) 0 (xs.getD (s.st - 2) 0), 0⟩ else ⟨s, doWs ws 2 (f + ((s.st - 2 : Nat) : Int)) 0 (xs.getD (s.st - 2) 0), doE ws 2 (f + ((s.st - 2 : Nat) : Int))⟩)
  else (if doE ws 2 v = 0 then ⟨{ s with st := s.st + 1, ed := true }, doWs ws 2 v 0 (IntKind.u64.wrap (s.fst + 2)), 0⟩ else ⟨s, doWs ws 2 v 0 (IntKind.u64.wrap (s.fst + 2)), doE ws 2 v⟩)
theorem ws_end (B r : Nat) (v f : Int) (A : Option Addr) (cl : Nat) (xs : List Int) (s : Ws) (b g c : Nat) (ws : List Int) (w : World) (h : WrAt B w r v f A cl xs s) (hm : MemAt w b g c ws) (hed : s.ed = true) :
    Calls Try.prog 26 #[.pointer (some ⟨r, 0, none⟩), memI b] w (WrP B w r v f A cl xs b g c ⟨s, ws, 17⟩) := by
  have c0 : w.cell? ⟨r, 0, none⟩ = some (.bool true) := h.hd.cell 0
  have c6 : w.cell? ⟨r, 6, none⟩ = some (.bool s.ed) := h.hd.cell 6
  rw [hed] at c6
  clear hed
  have H := Lib.hid h
  have HM := Lib.hid hm
  clear h hm
  go_enter Try.func26, Try.ntmps26
  go_wp2_with fail
  go_ret2
  exact ⟨rfl, H.out, HM.out, Ch.refl _ _⟩
set_option maxRecDepth 100000 in
set_option maxHeartbeats 1000000 in
theorem w0_err (B r : Nat) (v f : Int) (A : Option Addr) (cl : Nat) (xs : List Int) (s : Ws) (b g c : Nat) (ws : List Int) (w : World) (h : WrAt B w r v f A cl xs s) (hm : MemAt w b g c ws) (hg : g < B ∨ r ≤ g) (hed : s.ed = false) (hst : s.st = 0) (hE : doE ws 1 v ≠ 0) :
    Calls Try.prog 26 #[.pointer (some ⟨r, 0, none⟩), memI b] w (WrP B w r v f A cl xs b g c ⟨{ s with fst := doB ws 1 v }, ws, doE ws 1 v⟩) := by
  have c0 : w.cell? ⟨r, 0, none⟩ = some (.bool true) := h.hd.cell 0
  have c1 : w.cell? ⟨r, 1, none⟩ = some (.int .i64 v) := h.hd.cell 1
  have c2 : w.cell? ⟨r, 2, none⟩ = some (.int .i64 f) := h.hd.cell 2
  have c3 : w.cell? ⟨r, 3, none⟩ = some (.slice A xs.length cl) := h.hd.cell 3
  have c4 : w.cell? ⟨r, 4, none⟩ = some (.int .u64 s.fst) := h.hd.cell 4
  have c5 : w.cell? ⟨r, 5, none⟩ = some (.int .i64 s.st) := h.hd.cell 5
  have c6 : w.cell? ⟨r, 6, none⟩ = some (.bool s.ed) := h.hd.cell 6
  rw [hed] at c6
  have z1 := nil_Load b
  have z2 := method_Load b
  have z3 := nil_Store b
  have z4 := method_Store b
  have okv := h.ok.v0
  have okv1 := h.ok.v1
  have okn1 := h.ok.n1
  have okc := h.cap
  have hf0 := h.f0
  have hrg : r ≠ g := by obtain ⟨sp, hr⟩ := hm.row; exact Blk.ne h.hd hr (by decide)
  rw [hst] at c5
  have hop := fun W hW => mload_any b g c ws v W hW
  have hXb := doB_bd hm 1 v
  generalize doB ws 1 v = X at *
  generalize doE ws 1 v = E at *
  have e1 : (E == 0) = false := by rw [beq_eq_false_iff_ne]; exact hE
  clear hE
  have H := Lib.hid h
  have HM := Lib.hid hm
  have hed2 := hed
  clear h hm hed
  go_enter Try.func26, Try.ntmps26
  go_wp2_with fail
  go_region_held3 (fun w' => w'.cell? ⟨r, 1, none⟩ = some (.int .i64 v)) ((first | assumption | go_cell)) (first | (go_at_call 61; ((with_reducible refine (hop _ ?_).mono ?_); (focus (exact HM.out.below (by (repeat' (first | (with_reducible exact Below.refl _ _) | (with_reducible assumption) | (with_reducible refine Below.alloc ?_ ?_ _) | (with_reducible refine Below.drew ?_) | (with_reducible refine below_drewN ?_ _) | (with_reducible refine Below.setCell ?_ ?_ _) | (with_reducible refine Below.trans ?_ (Below.mono (by assumption) ?_)) | (first | go_size | (with_reducible exact Below.size (by assumption)) | (with_reducible exact Nat.le_trans (Below.size (by assumption)) (Below.size (by assumption))) | (refine Nat.le_trans (Below.size (by assumption)) ?_; go_size))))))); rintro e w1 ⟨rfl, hm1, hc1⟩; have k1 : w1.cell? ⟨r, 1, none⟩ = some (.int .i64 v) := hc1.keeps (by go_cell) hrg)))
  all_goals
    have hC : Ch (fun j => j = g) w w1 := (Ch.of_below (show Below w.heap.size w _ by (repeat' (first | (with_reducible exact Below.refl _ _) | (with_reducible assumption) | (with_reducible refine Below.alloc ?_ ?_ _) | (with_reducible refine Below.drew ?_) | (with_reducible refine below_drewN ?_ _) | (with_reducible refine Below.setCell ?_ ?_ _) | (with_reducible refine Below.trans ?_ (Below.mono (by assumption) ?_)) | (first | go_size | (with_reducible exact Below.size (by assumption)) | (with_reducible exact Nat.le_trans (Below.size (by assumption)) (Below.size (by assumption))) | (refine Nat.le_trans (Below.size (by assumption)) ?_; go_size))))) _).trans hc1 (fun _ _ e => e)
    have h1 := H.out.keep hC hrg (fun q _ q1 q2 e => by omega)
    have d0 : w1.cell? ⟨r, 0, none⟩ = some (.bool true) := h1.hd.cell 0
    have d4 : w1.cell? ⟨r, 4, none⟩ = some (.int .u64 s.fst) := h1.hd.cell 4
    have d5 : w1.cell? ⟨r, 5, none⟩ = some (.int .i64 s.st) := h1.hd.cell 5
    have d6 : w1.cell? ⟨r, 6, none⟩ = some (.bool s.ed) := h1.hd.cell 6
    have f4 := h1.hd.frozen 4; have hs := (h1.hd).set 4 (.int .u64 X)
    have hC2 : Ch (fun j => j = r) w1 (w1.setCell ⟨r, 4, none⟩ (.int .u64 X)) := (Ch.refl (fun j => j = r) w1).setCell (p := ⟨r, 4, none⟩) (.inl rfl) (.int .u64 X)
    have hmr := hm1.keep hC2 (fun e => Blk.ne hm1.hd h1.hd (by decide) e) (fun e => hrg e.symm)
    have hch : Ch (fun j => j = r ∨ j = g) w (w1.setCell ⟨r, 4, none⟩ (.int .u64 X)) := (hC.mono (G := fun j => j = r ∨ j = g) (fun _ _ e => .inr e)).trans hC2 (fun _ _ e => .inl e)
    have hfin : WrAt B (w1.setCell ⟨r, 4, none⟩ (.int .u64 X)) r v f A cl xs { s with fst := X } := ⟨hs, h1.rd.keep hC2 (fun q _ hq e => by omega), h1.cap, h1.capm, h1.wf, h1.ok, h1.st, h1.fin, hXb⟩
    have HF := Lib.hid hfin
    have HR := Lib.hid hmr
    have HC := Lib.hid hch
    rw [hst] at d5
    clear hfin hmr hch hs hC2 hC hc1 h1 hm1
    go_wp2_with (fail)
    go_ret2
    exact ⟨rfl, HF.out, HR.out, HC.out⟩
set_option maxRecDepth 100000 in
set_option maxHeartbeats 1000000 in
theorem w0_odd (B r : Nat) (v f : Int) (A : Option Addr) (cl : Nat) (xs : List Int) (s : Ws) (b g c : Nat) (ws : List Int) (w : World) (h : WrAt B w r v f A cl xs s) (hm : MemAt w b g c ws) (hg : g < B ∨ r ≤ g) (hed : s.ed = false) (hst : s.st = 0) (hE : doE ws 1 v = 0) (hx : doB ws 1 v % 2 = 1) :
    Calls Try.prog 26 #[.pointer (some ⟨r, 0, none⟩), memI b] w (WrP B w r v f A cl xs b g c ⟨{ s with fst := doB ws 1 v }, ws, 8⟩) := by
  have c0 : w.cell? ⟨r, 0, none⟩ = some (.bool true) := h.hd.cell 0
  have c1 : w.cell? ⟨r, 1, none⟩ = some (.int .i64 v) := h.hd.cell 1
  have c2 : w.cell? ⟨r, 2, none⟩ = some (.int .i64 f) := h.hd.cell 2
  have c3 : w.cell? ⟨r, 3, none⟩ = some (.slice A xs.length cl) := h.hd.cell 3
  have c4 : w.cell? ⟨r, 4, none⟩ = some (.int .u64 s.fst) := h.hd.cell 4
  have c5 : w.cell? ⟨r, 5, none⟩ = some (.int .i64 s.st) := h.hd.cell 5
  have c6 : w.cell? ⟨r, 6, none⟩ = some (.bool s.ed) := h.hd.cell 6
  rw [hed] at c6
  have z1 := nil_Load b
  have z2 := method_Load b
  have z3 := nil_Store b
  have z4 := method_Store b
  have okv := h.ok.v0
  have okv1 := h.ok.v1
  have okn1 := h.ok.n1
  have okc := h.cap
  have hf0 := h.f0
  have hrg : r ≠ g := by obtain ⟨sp, hr⟩ := hm.row; exact Blk.ne h.hd hr (by decide)
  rw [hst] at c5
  have hop := fun W hW => mload_any b g c ws v W hW
  have hXb := doB_bd hm 1 v
  generalize doB ws 1 v = X at *
  generalize doE ws 1 v = E at *
  subst hE
  have e2 : (X % 2 == 0) = false := by rw [beq_eq_false_iff_ne]; omega
  clear hx
  have H := Lib.hid h
  have HM := Lib.hid hm
  have hed2 := hed
  clear h hm hed
  go_enter Try.func26, Try.ntmps26
  go_wp2_with fail
  go_region_held3 (fun w' => w'.cell? ⟨r, 1, none⟩ = some (.int .i64 v)) ((first | assumption | go_cell)) (first | (go_at_call 61; ((with_reducible refine (hop _ ?_).mono ?_); (focus (exact HM.out.below (by (repeat' (first | (with_reducible exact Below.refl _ _) | (with_reducible assumption) | (with_reducible refine Below.alloc ?_ ?_ _) | (with_reducible refine Below.drew ?_) | (with_reducible refine below_drewN ?_ _) | (with_reducible refine Below.setCell ?_ ?_ _) | (with_reducible refine Below.trans ?_ (Below.mono (by assumption) ?_)) | (first | go_size | (with_reducible exact Below.size (by assumption)) | (with_reducible exact Nat.le_trans (Below.size (by assumption)) (Below.size (by assumption))) | (refine Nat.le_trans (Below.size (by assumption)) ?_; go_size))))))); rintro e w1 ⟨rfl, hm1, hc1⟩; have k1 : w1.cell? ⟨r, 1, none⟩ = some (.int .i64 v) := hc1.keeps (by go_cell) hrg)))
  all_goals
    have hC : Ch (fun j => j = g) w w1 := (Ch.of_below (show Below w.heap.size w _ by (repeat' (first | (with_reducible exact Below.refl _ _) | (with_reducible assumption) | (with_reducible refine Below.alloc ?_ ?_ _) | (with_reducible refine Below.drew ?_) | (with_reducible refine below_drewN ?_ _) | (with_reducible refine Below.setCell ?_ ?_ _) | (with_reducible refine Below.trans ?_ (Below.mono (by assumption) ?_)) | (first | go_size | (with_reducible exact Below.size (by assumption)) | (with_reducible exact Nat.le_trans (Below.size (by assumption)) (Below.size (by assumption))) | (refine Nat.le_trans (Below.size (by assumption)) ?_; go_size))))) _).trans hc1 (fun _ _ e => e)
    have h1 := H.out.keep hC hrg (fun q _ q1 q2 e => by omega)
    have d0 : w1.cell? ⟨r, 0, none⟩ = some (.bool true) := h1.hd.cell 0
    have d4 : w1.cell? ⟨r, 4, none⟩ = some (.int .u64 s.fst) := h1.hd.cell 4
    have d5 : w1.cell? ⟨r, 5, none⟩ = some (.int .i64 s.st) := h1.hd.cell 5
    have d6 : w1.cell? ⟨r, 6, none⟩ = some (.bool s.ed) := h1.hd.cell 6
    have f4 := h1.hd.frozen 4; have hs := (h1.hd).set 4 (.int .u64 X)
    have hC2 : Ch (fun j => j = r) w1 (w1.setCell ⟨r, 4, none⟩ (.int .u64 X)) := (Ch.refl (fun j => j = r) w1).setCell (p := ⟨r, 4, none⟩) (.inl rfl) (.int .u64 X)
    have hmr := hm1.keep hC2 (fun e => Blk.ne hm1.hd h1.hd (by decide) e) (fun e => hrg e.symm)
    have hch : Ch (fun j => j = r ∨ j = g) w (w1.setCell ⟨r, 4, none⟩ (.int .u64 X)) := (hC.mono (G := fun j => j = r ∨ j = g) (fun _ _ e => .inr e)).trans hC2 (fun _ _ e => .inl e)
    have hfin : WrAt B (w1.setCell ⟨r, 4, none⟩ (.int .u64 X)) r v f A cl xs { s with fst := X } := ⟨hs, h1.rd.keep hC2 (fun q _ hq e => by omega), h1.cap, h1.capm, h1.wf, h1.ok, h1.st, h1.fin, hXb⟩
    have HF := Lib.hid hfin
    have HR := Lib.hid hmr
    have HC := Lib.hid hch
    rw [hst] at d5
    clear hfin hmr hch hs hC2 hC hc1 h1 hm1
    go_wp2_with (go_at_call 9; refine (even_any X _ hXb.1).mono ?_; rintro e w' ⟨rfl, rfl⟩)
    go_ret2
    exact ⟨rfl, HF.out, HR.out, HC.out⟩
set_option maxRecDepth 100000 in
set_option maxHeartbeats 1000000 in
theorem w0_ok (B r : Nat) (v f : Int) (A : Option Addr) (cl : Nat) (xs : List Int) (s : Ws) (b g c : Nat) (ws : List Int) (w : World) (h : WrAt B w r v f A cl xs s) (hm : MemAt w b g c ws) (hg : g < B ∨ r ≤ g) (hed : s.ed = false) (hst : s.st = 0) (hE : doE ws 1 v = 0) (hx : doB ws 1 v % 2 = 0) :
    Calls Try.prog 26 #[.pointer (some ⟨r, 0, none⟩), memI b] w (WrP B w r v f A cl xs b g c ⟨{ s with fst := doB ws 1 v, st := 1 }, ws, 0⟩) := by
  have c0 : w.cell? ⟨r, 0, none⟩ = some (.bool true) := h.hd.cell 0
  have c1 : w.cell? ⟨r, 1, none⟩ = some (.int .i64 v) := h.hd.cell 1
  have c2 : w.cell? ⟨r, 2, none⟩ = some (.int .i64 f) := h.hd.cell 2
  have c3 : w.cell? ⟨r, 3, none⟩ = some (.slice A xs.length cl) := h.hd.cell 3
  have c4 : w.cell? ⟨r, 4, none⟩ = some (.int .u64 s.fst) := h.hd.cell 4
  have c5 : w.cell? ⟨r, 5, none⟩ = some (.int .i64 s.st) := h.hd.cell 5
  have c6 : w.cell? ⟨r, 6, none⟩ = some (.bool s.ed) := h.hd.cell 6
  rw [hed] at c6
  have z1 := nil_Load b
  have z2 := method_Load b
  have z3 := nil_Store b
  have z4 := method_Store b
  have okv := h.ok.v0
  have okv1 := h.ok.v1
  have okn1 := h.ok.n1
  have okc := h.cap
  have hf0 := h.f0
  have hrg : r ≠ g := by obtain ⟨sp, hr⟩ := hm.row; exact Blk.ne h.hd hr (by decide)
  rw [hst] at c5
  have hop := fun W hW => mload_any b g c ws v W hW
  have hXb := doB_bd hm 1 v
  generalize doB ws 1 v = X at *
  generalize doE ws 1 v = E at *
  subst hE
  have e2 : (X % 2 == 0) = true := by rw [beq_iff_eq]; exact hx
  clear hx
  have H := Lib.hid h
  have HM := Lib.hid hm
  have hed2 := hed
  clear h hm hed
  go_enter Try.func26, Try.ntmps26
  go_wp2_with fail
  go_region_held3 (fun w' => w'.cell? ⟨r, 1, none⟩ = some (.int .i64 v)) ((first | assumption | go_cell)) (first | (go_at_call 61; ((with_reducible refine (hop _ ?_).mono ?_); (focus (exact HM.out.below (by (repeat' (first | (with_reducible exact Below.refl _ _) | (with_reducible assumption) | (with_reducible refine Below.alloc ?_ ?_ _) | (with_reducible refine Below.drew ?_) | (with_reducible refine below_drewN ?_ _) | (with_reducible refine Below.setCell ?_ ?_ _) | (with_reducible refine Below.trans ?_ (Below.mono (by assumption) ?_)) | (first | go_size | (with_reducible exact Below.size (by assumption)) | (with_reducible exact Nat.le_trans (Below.size (by assumption)) (Below.size (by assumption))) | (refine Nat.le_trans (Below.size (by assumption)) ?_; go_size))))))); rintro e w1 ⟨rfl, hm1, hc1⟩; have k1 : w1.cell? ⟨r, 1, none⟩ = some (.int .i64 v) := hc1.keeps (by go_cell) hrg)))
  all_goals
    have hC : Ch (fun j => j = g) w w1 := (Ch.of_below (show Below w.heap.size w _ by (repeat' (first | (with_reducible exact Below.refl _ _) | (with_reducible assumption) | (with_reducible refine Below.alloc ?_ ?_ _) | (with_reducible refine Below.drew ?_) | (with_reducible refine below_drewN ?_ _) | (with_reducible refine Below.setCell ?_ ?_ _) | (with_reducible refine Below.trans ?_ (Below.mono (by assumption) ?_)) | (first | go_size | (with_reducible exact Below.size (by assumption)) | (with_reducible exact Nat.le_trans (Below.size (by assumption)) (Below.size (by assumption))) | (refine Nat.le_trans (Below.size (by assumption)) ?_; go_size))))) _).trans hc1 (fun _ _ e => e)
    have h1 := H.out.keep hC hrg (fun q _ q1 q2 e => by omega)
    have d0 : w1.cell? ⟨r, 0, none⟩ = some (.bool true) := h1.hd.cell 0
    have d4 : w1.cell? ⟨r, 4, none⟩ = some (.int .u64 s.fst) := h1.hd.cell 4
    have d5 : w1.cell? ⟨r, 5, none⟩ = some (.int .i64 s.st) := h1.hd.cell 5
    have d6 : w1.cell? ⟨r, 6, none⟩ = some (.bool s.ed) := h1.hd.cell 6
    have f4 := h1.hd.frozen 4; have f5 := h1.hd.frozen 5; have hs := ((h1.hd).set 4 (.int .u64 X)).set 5 (.int .i64 1)
    have hC2 : Ch (fun j => j = r) w1 ((w1.setCell ⟨r, 4, none⟩ (.int .u64 X)).setCell ⟨r, 5, none⟩ (.int .i64 1)) := ((Ch.refl (fun j => j = r) w1).setCell (p := ⟨r, 4, none⟩) (.inl rfl) (.int .u64 X)).setCell (p := ⟨r, 5, none⟩) (.inl rfl) (.int .i64 1)
    have hmr := hm1.keep hC2 (fun e => Blk.ne hm1.hd h1.hd (by decide) e) (fun e => hrg e.symm)
    have hch : Ch (fun j => j = r ∨ j = g) w ((w1.setCell ⟨r, 4, none⟩ (.int .u64 X)).setCell ⟨r, 5, none⟩ (.int .i64 1)) := (hC.mono (G := fun j => j = r ∨ j = g) (fun _ _ e => .inr e)).trans hC2 (fun _ _ e => .inl e)
    have hfin : WrAt B ((w1.setCell ⟨r, 4, none⟩ (.int .u64 X)).setCell ⟨r, 5, none⟩ (.int .i64 1)) r v f A cl xs { s with fst := X, st := 1 } := ⟨hs, h1.rd.keep hC2 (fun q _ hq e => by omega), h1.cap, h1.capm, h1.wf, h1.ok, by show 1 ≤ _; omega, (fun _ => by show 1 ≤ _; omega), hXb⟩
    have HF := Lib.hid hfin
    have HR := Lib.hid hmr
    have HC := Lib.hid hch
    rw [hst] at d5
    clear hfin hmr hch hs hC2 hC hc1 h1 hm1
    go_wp2_with (go_at_call 9; refine (even_any X _ hXb.1).mono ?_; rintro e w' ⟨rfl, rfl⟩)
    go_ret2
    exact ⟨rfl, HF.out, HR.out, HC.out⟩
set_option maxRecDepth 100000 in
set_option maxHeartbeats 1000000 in
theorem w1_ok (B r : Nat) (v f : Int) (A : Option Addr) (cl : Nat) (xs : List Int) (s : Ws) (b g c : Nat) (ws : List Int) (w : World) (h : WrAt B w r v f A cl xs s) (hm : MemAt w b g c ws) (hg : g < B ∨ r ≤ g) (hed : s.ed = false) (hst : s.st = 1) (hE : doE ws 2 v = 0) :
    Calls Try.prog 26 #[.pointer (some ⟨r, 0, none⟩), memI b] w (WrP B w r v f A cl xs b g c ⟨{ s with st := 2 }, doWs ws 2 v 0 (IntKind.u64.wrap (s.fst + 1)), 0⟩) := by
  have c0 : w.cell? ⟨r, 0, none⟩ = some (.bool true) := h.hd.cell 0
  have c1 : w.cell? ⟨r, 1, none⟩ = some (.int .i64 v) := h.hd.cell 1
  have c2 : w.cell? ⟨r, 2, none⟩ = some (.int .i64 f) := h.hd.cell 2
  have c3 : w.cell? ⟨r, 3, none⟩ = some (.slice A xs.length cl) := h.hd.cell 3
  have c4 : w.cell? ⟨r, 4, none⟩ = some (.int .u64 s.fst) := h.hd.cell 4
  have c5 : w.cell? ⟨r, 5, none⟩ = some (.int .i64 s.st) := h.hd.cell 5
  have c6 : w.cell? ⟨r, 6, none⟩ = some (.bool s.ed) := h.hd.cell 6
  rw [hed] at c6
  have z1 := nil_Load b
  have z2 := method_Load b
  have z3 := nil_Store b
  have z4 := method_Store b
  have okv := h.ok.v0
  have okv1 := h.ok.v1
  have okn1 := h.ok.n1
  have okc := h.cap
  have hf0 := h.f0
  have hrg : r ≠ g := by obtain ⟨sp, hr⟩ := hm.row; exact Blk.ne h.hd hr (by decide)
  have hop := fun W hW => mstore_any b g c ws v (IntKind.u64.wrap (s.fst + 1)) W hW (wrap_bd _)
  generalize doWs ws 2 v 0 (IntKind.u64.wrap (s.fst + 1)) = ws2 at *
  generalize doE ws 2 v = E at *
  subst hE
  rw [hst] at c5
  have H := Lib.hid h
  have HM := Lib.hid hm
  have hed2 := hed
  clear h hm hed
  go_enter Try.func26, Try.ntmps26
  go_wp2_with fail
  go_region_held3 (fun w' => w'.cell? ⟨r, 1, none⟩ = some (.int .i64 v) ∧ w'.cell? ⟨r, 4, none⟩ = some (.int .u64 s.fst)) (((try go_split_ands); ((repeat' apply And.intro) <;> first | (with_reducible assumption) | go_cell))) (first | (go_at_call 33; ((with_reducible refine (hop _ ?_).mono ?_); (focus (exact HM.out.below (by (repeat' (first | (with_reducible exact Below.refl _ _) | (with_reducible assumption) | (with_reducible refine Below.alloc ?_ ?_ _) | (with_reducible refine Below.drew ?_) | (with_reducible refine below_drewN ?_ _) | (with_reducible refine Below.setCell ?_ ?_ _) | (with_reducible refine Below.trans ?_ (Below.mono (by assumption) ?_)) | (first | go_size | (with_reducible exact Below.size (by assumption)) | (with_reducible exact Nat.le_trans (Below.size (by assumption)) (Below.size (by assumption))) | (refine Nat.le_trans (Below.size (by assumption)) ?_; go_size))))))); rintro e w1 ⟨rfl, hm1, hc1⟩; have k1 : w1.cell? ⟨r, 1, none⟩ = some (.int .i64 v) := hc1.keeps (by go_cell) hrg; have k4 : w1.cell? ⟨r, 4, none⟩ = some (.int .u64 s.fst) := hc1.keeps (by go_cell) hrg)))
  all_goals
    have hC : Ch (fun j => j = g) w w1 := (Ch.of_below (show Below w.heap.size w _ by (repeat' (first | (with_reducible exact Below.refl _ _) | (with_reducible assumption) | (with_reducible refine Below.alloc ?_ ?_ _) | (with_reducible refine Below.drew ?_) | (with_reducible refine below_drewN ?_ _) | (with_reducible refine Below.setCell ?_ ?_ _) | (with_reducible refine Below.trans ?_ (Below.mono (by assumption) ?_)) | (first | go_size | (with_reducible exact Below.size (by assumption)) | (with_reducible exact Nat.le_trans (Below.size (by assumption)) (Below.size (by assumption))) | (refine Nat.le_trans (Below.size (by assumption)) ?_; go_size))))) _).trans hc1 (fun _ _ e => e)
    have h1 := H.out.keep hC hrg (fun q _ q1 q2 e => by omega)
    have d0 : w1.cell? ⟨r, 0, none⟩ = some (.bool true) := h1.hd.cell 0
    have d4 : w1.cell? ⟨r, 4, none⟩ = some (.int .u64 s.fst) := h1.hd.cell 4
    have d5 : w1.cell? ⟨r, 5, none⟩ = some (.int .i64 s.st) := h1.hd.cell 5
    have d6 : w1.cell? ⟨r, 6, none⟩ = some (.bool s.ed) := h1.hd.cell 6
    have f5 := h1.hd.frozen 5; have hs := (h1.hd).set 5 (.int .i64 2)
    have hC2 : Ch (fun j => j = r) w1 (w1.setCell ⟨r, 5, none⟩ (.int .i64 2)) := (Ch.refl (fun j => j = r) w1).setCell (p := ⟨r, 5, none⟩) (.inl rfl) (.int .i64 2)
    have hmr := hm1.keep hC2 (fun e => Blk.ne hm1.hd h1.hd (by decide) e) (fun e => hrg e.symm)
    have hch : Ch (fun j => j = r ∨ j = g) w (w1.setCell ⟨r, 5, none⟩ (.int .i64 2)) := (hC.mono (G := fun j => j = r ∨ j = g) (fun _ _ e => .inr e)).trans hC2 (fun _ _ e => .inl e)
    have hfin : WrAt B (w1.setCell ⟨r, 5, none⟩ (.int .i64 2)) r v f A cl xs { s with st := 2 } := ⟨hs, h1.rd.keep hC2 (fun q _ hq e => by omega), h1.cap, h1.capm, h1.wf, h1.ok, by show 2 ≤ _; omega, (fun _ => by show 2 ≤ _; omega), h1.f0⟩
    have HF := Lib.hid hfin
    have HR := Lib.hid hmr
    have HC := Lib.hid hch
    rw [hst] at d5
    clear hfin hmr hch hs hC2 hC hc1 h1 hm1
    go_wp2_with (fail)
    go_ret2
    exact ⟨rfl, HF.out, HR.out, HC.out⟩
set_option maxRecDepth 100000 in
set_option maxHeartbeats 1000000 in
theorem w1_err (B r : Nat) (v f : Int) (A : Option Addr) (cl : Nat) (xs : List Int) (s : Ws) (b g c : Nat) (ws : List Int) (w : World) (h : WrAt B w r v f A cl xs s) (hm : MemAt w b g c ws) (hg : g < B ∨ r ≤ g) (hed : s.ed = false) (hst : s.st = 1) (hE : doE ws 2 v ≠ 0) :
    Calls Try.prog 26 #[.pointer (some ⟨r, 0, none⟩), memI b] w (WrP B w r v f A cl xs b g c ⟨s, doWs ws 2 v 0 (IntKind.u64.wrap (s.fst + 1)), doE ws 2 v⟩) := by
  have c0 : w.cell? ⟨r, 0, none⟩ = some (.bool true) := h.hd.cell 0
  have c1 : w.cell? ⟨r, 1, none⟩ = some (.int .i64 v) := h.hd.cell 1
  have c2 : w.cell? ⟨r, 2, none⟩ = some (.int .i64 f) := h.hd.cell 2
  have c3 : w.cell? ⟨r, 3, none⟩ = some (.slice A xs.length cl) := h.hd.cell 3
  have c4 : w.cell? ⟨r, 4, none⟩ = some (.int .u64 s.fst) := h.hd.cell 4
  have c5 : w.cell? ⟨r, 5, none⟩ = some (.int .i64 s.st) := h.hd.cell 5
  have c6 : w.cell? ⟨r, 6, none⟩ = some (.bool s.ed) := h.hd.cell 6
  rw [hed] at c6
  have z1 := nil_Load b
  have z2 := method_Load b
  have z3 := nil_Store b
  have z4 := method_Store b
  have okv := h.ok.v0
  have okv1 := h.ok.v1
  have okn1 := h.ok.n1
  have okc := h.cap
  have hf0 := h.f0
  have hrg : r ≠ g := by obtain ⟨sp, hr⟩ := hm.row; exact Blk.ne h.hd hr (by decide)
  have hop := fun W hW => mstore_any b g c ws v (IntKind.u64.wrap (s.fst + 1)) W hW (wrap_bd _)
  generalize doWs ws 2 v 0 (IntKind.u64.wrap (s.fst + 1)) = ws2 at *
  generalize doE ws 2 v = E at *
  have e1 : (E == 0) = false := by rw [beq_eq_false_iff_ne]; exact hE
  clear hE
  rw [hst] at c5
  have H := Lib.hid h
  have HM := Lib.hid hm
  have hed2 := hed
  clear h hm hed
  go_enter Try.func26, Try.ntmps26
  go_wp2_with fail
  go_region_held3 (fun w' => w'.cell? ⟨r, 1, none⟩ = some (.int .i64 v) ∧ w'.cell? ⟨r, 4, none⟩ = some (.int .u64 s.fst)) (((try go_split_ands); ((repeat' apply And.intro) <;> first | (with_reducible assumption) | go_cell))) (first | (go_at_call 33; ((with_reducible refine (hop _ ?_).mono ?_); (focus (exact HM.out.below (by (repeat' (first | (with_reducible exact Below.refl _ _) | (with_reducible assumption) | (with_reducible refine Below.alloc ?_ ?_ _) | (with_reducible refine Below.drew ?_) | (with_reducible refine below_drewN ?_ _) | (with_reducible refine Below.setCell ?_ ?_ _) | (with_reducible refine Below.trans ?_ (Below.mono (by assumption) ?_)) | (first | go_size | (with_reducible exact Below.size (by assumption)) | (with_reducible exact Nat.le_trans (Below.size (by assumption)) (Below.size (by assumption))) | (refine Nat.le_trans (Below.size (by assumption)) ?_; go_size))))))); rintro e w1 ⟨rfl, hm1, hc1⟩; have k1 : w1.cell? ⟨r, 1, none⟩ = some (.int .i64 v) := hc1.keeps (by go_cell) hrg; have k4 : w1.cell? ⟨r, 4, none⟩ = some (.int .u64 s.fst) := hc1.keeps (by go_cell) hrg)))
  all_goals
    have hC : Ch (fun j => j = g) w w1 := (Ch.of_below (show Below w.heap.size w _ by (repeat' (first | (with_reducible exact Below.refl _ _) | (with_reducible assumption) | (with_reducible refine Below.alloc ?_ ?_ _) | (with_reducible refine Below.drew ?_) | (with_reducible refine below_drewN ?_ _) | (with_reducible refine Below.setCell ?_ ?_ _) | (with_reducible refine Below.trans ?_ (Below.mono (by assumption) ?_)) | (first | go_size | (with_reducible exact Below.size (by assumption)) | (with_reducible exact Nat.le_trans (Below.size (by assumption)) (Below.size (by assumption))) | (refine Nat.le_trans (Below.size (by assumption)) ?_; go_size))))) _).trans hc1 (fun _ _ e => e)
    have h1 := H.out.keep hC hrg (fun q _ q1 q2 e => by omega)
    have d0 : w1.cell? ⟨r, 0, none⟩ = some (.bool true) := h1.hd.cell 0
    have d4 : w1.cell? ⟨r, 4, none⟩ = some (.int .u64 s.fst) := h1.hd.cell 4
    have d5 : w1.cell? ⟨r, 5, none⟩ = some (.int .i64 s.st) := h1.hd.cell 5
    have d6 : w1.cell? ⟨r, 6, none⟩ = some (.bool s.ed) := h1.hd.cell 6
    have hs := h1.hd
    have hC2 : Ch (fun j => j = r) w1 w1 := Ch.refl (fun j => j = r) w1
    have hmr := hm1.keep hC2 (fun e => Blk.ne hm1.hd h1.hd (by decide) e) (fun e => hrg e.symm)
    have hch : Ch (fun j => j = r ∨ j = g) w w1 := (hC.mono (G := fun j => j = r ∨ j = g) (fun _ _ e => .inr e)).trans hC2 (fun _ _ e => .inl e)
    have hfin : WrAt B w1 r v f A cl xs s := ⟨hs, h1.rd.keep hC2 (fun q _ hq e => by omega), h1.cap, h1.capm, h1.wf, h1.ok, h1.st, h1.fin, h1.f0⟩
    have HF := Lib.hid hfin
    have HR := Lib.hid hmr
    have HC := Lib.hid hch
    rw [hst] at d5
    clear hfin hmr hch hs hC2 hC hc1 h1 hm1
    go_wp2_with (fail)
    go_ret2
    exact ⟨rfl, HF.out, HR.out, HC.out⟩
set_option maxRecDepth 100000 in
set_option maxHeartbeats 1000000 in
theorem w3_ok (B r : Nat) (v f : Int) (A : Option Addr) (cl : Nat) (xs : List Int) (s : Ws) (b g c : Nat) (ws : List Int) (w : World) (h : WrAt B w r v f A cl xs s) (hm : MemAt w b g c ws) (hg : g < B ∨ r ≤ g) (hed : s.ed = false) (hst : 2 ≤ s.st ∧ ¬ s.st - 2 < xs.length) (hE : doE ws 2 v = 0) :
    Calls Try.prog 26 #[.pointer (some ⟨r, 0, none⟩), memI b] w (WrP B w r v f A cl xs b g c ⟨{ s with st := xs.length + 3, ed := true }, doWs ws 2 v 0 (IntKind.u64.wrap (s.fst + 2)), 0⟩) := by
  have c0 : w.cell? ⟨r, 0, none⟩ = some (.bool true) := h.hd.cell 0
  have c1 : w.cell? ⟨r, 1, none⟩ = some (.int .i64 v) := h.hd.cell 1
  have c2 : w.cell? ⟨r, 2, none⟩ = some (.int .i64 f) := h.hd.cell 2
  have c3 : w.cell? ⟨r, 3, none⟩ = some (.slice A xs.length cl) := h.hd.cell 3
  have c4 : w.cell? ⟨r, 4, none⟩ = some (.int .u64 s.fst) := h.hd.cell 4
  have c5 : w.cell? ⟨r, 5, none⟩ = some (.int .i64 s.st) := h.hd.cell 5
  have c6 : w.cell? ⟨r, 6, none⟩ = some (.bool s.ed) := h.hd.cell 6
  rw [hed] at c6
  have z1 := nil_Load b
  have z2 := method_Load b
  have z3 := nil_Store b
  have z4 := method_Store b
  have okv := h.ok.v0
  have okv1 := h.ok.v1
  have okn1 := h.ok.n1
  have okc := h.cap
  have hf0 := h.f0
  have hrg : r ≠ g := by obtain ⟨sp, hr⟩ := hm.row; exact Blk.ne h.hd hr (by decide)
  have hop := fun W hW => mstore_any b g c ws v (IntKind.u64.wrap (s.fst + 2)) W hW (wrap_bd _)
  generalize doWs ws 2 v 0 (IntKind.u64.wrap (s.fst + 2)) = ws2 at *
  generalize doE ws 2 v = E at *
  subst hE
  have hst1 := hst.1
  have hst2 : s.st = xs.length + 2 := by have := h.fin hed; omega
  rw [hst2] at c5
  have dl : decide (((xs.length + 2 : Nat) : Int) - 2 < (xs.length : Int)) = false := decide_eq_false (by omega)
  have e8 : (((xs.length + 2 : Nat) : Int) == 0) = false := by rw [beq_eq_false_iff_ne]; omega
  have e9 : (((xs.length + 2 : Nat) : Int) == 1) = false := by rw [beq_eq_false_iff_ne]; omega
  clear hst
  have H := Lib.hid h
  have HM := Lib.hid hm
  have hed2 := hed
  clear h hm hed
  go_enter Try.func26, Try.ntmps26
  go_wp2_with fail
  go_region_held3 (fun w' => w'.cell? ⟨r, 1, none⟩ = some (.int .i64 v) ∧ w'.cell? ⟨r, 4, none⟩ = some (.int .u64 s.fst)) (((try go_split_ands); ((repeat' apply And.intro) <;> first | (with_reducible assumption) | go_cell))) (first | (go_at_call 33; ((with_reducible refine (hop _ ?_).mono ?_); (focus (exact HM.out.below (by (repeat' (first | (with_reducible exact Below.refl _ _) | (with_reducible assumption) | (with_reducible refine Below.alloc ?_ ?_ _) | (with_reducible refine Below.drew ?_) | (with_reducible refine below_drewN ?_ _) | (with_reducible refine Below.setCell ?_ ?_ _) | (with_reducible refine Below.trans ?_ (Below.mono (by assumption) ?_)) | (first | go_size | (with_reducible exact Below.size (by assumption)) | (with_reducible exact Nat.le_trans (Below.size (by assumption)) (Below.size (by assumption))) | (refine Nat.le_trans (Below.size (by assumption)) ?_; go_size))))))); rintro e w1 ⟨rfl, hm1, hc1⟩; have k1 : w1.cell? ⟨r, 1, none⟩ = some (.int .i64 v) := hc1.keeps (by go_cell) hrg; have k4 : w1.cell? ⟨r, 4, none⟩ = some (.int .u64 s.fst) := hc1.keeps (by go_cell) hrg)))
  all_goals
    have hC : Ch (fun j => j = g) w w1 := (Ch.of_below (show Below w.heap.size w _ by (repeat' (first | (with_reducible exact Below.refl _ _) | (with_reducible assumption) | (with_reducible refine Below.alloc ?_ ?_ _) | (with_reducible refine Below.drew ?_) | (with_reducible refine below_drewN ?_ _) | (with_reducible refine Below.setCell ?_ ?_ _) | (with_reducible refine Below.trans ?_ (Below.mono (by assumption) ?_)) | (first | go_size | (with_reducible exact Below.size (by assumption)) | (with_reducible exact Nat.le_trans (Below.size (by assumption)) (Below.size (by assumption))) | (refine Nat.le_trans (Below.size (by assumption)) ?_; go_size))))) _).trans hc1 (fun _ _ e => e)
    have h1 := H.out.keep hC hrg (fun q _ q1 q2 e => by omega)
    have d0 : w1.cell? ⟨r, 0, none⟩ = some (.bool true) := h1.hd.cell 0
    have d4 : w1.cell? ⟨r, 4, none⟩ = some (.int .u64 s.fst) := h1.hd.cell 4
    have d5 : w1.cell? ⟨r, 5, none⟩ = some (.int .i64 s.st) := h1.hd.cell 5
    have d6 : w1.cell? ⟨r, 6, none⟩ = some (.bool s.ed) := h1.hd.cell 6
    have f5 := h1.hd.frozen 5; have f6 := h1.hd.frozen 6; have hs := ((h1.hd).set 6 (.bool true)).set 5 (.int .i64 ((xs.length : Int) + 3))
    have hC2 : Ch (fun j => j = r) w1 ((w1.setCell ⟨r, 6, none⟩ (.bool true)).setCell ⟨r, 5, none⟩ (.int .i64 ((xs.length : Int) + 3))) := ((Ch.refl (fun j => j = r) w1).setCell (p := ⟨r, 6, none⟩) (.inl rfl) (.bool true)).setCell (p := ⟨r, 5, none⟩) (.inl rfl) (.int .i64 ((xs.length : Int) + 3))
    have hmr := hm1.keep hC2 (fun e => Blk.ne hm1.hd h1.hd (by decide) e) (fun e => hrg e.symm)
    have hch : Ch (fun j => j = r ∨ j = g) w ((w1.setCell ⟨r, 6, none⟩ (.bool true)).setCell ⟨r, 5, none⟩ (.int .i64 ((xs.length : Int) + 3))) := (hC.mono (G := fun j => j = r ∨ j = g) (fun _ _ e => .inr e)).trans hC2 (fun _ _ e => .inl e)
    have hfin : WrAt B ((w1.setCell ⟨r, 6, none⟩ (.bool true)).setCell ⟨r, 5, none⟩ (.int .i64 ((xs.length : Int) + 3))) r v f A cl xs { s with st := xs.length + 3, ed := true } := ⟨hs, h1.rd.keep hC2 (fun q _ hq e => by omega), h1.cap, h1.capm, h1.wf, h1.ok, by show xs.length + 3 ≤ _; omega, (fun e => by cases e), h1.f0⟩
    have HF := Lib.hid hfin
    have HR := Lib.hid hmr
    have HC := Lib.hid hch
    rw [hst2] at d5
    clear hst2
    clear hfin hmr hch hs hC2 hC hc1 h1 hm1
    go_wp2_with (fail)
    go_ret2
    exact ⟨rfl, HF.out, HR.out, HC.out⟩
set_option maxRecDepth 100000 in
set_option maxHeartbeats 1000000 in
theorem w3_err (B r : Nat) (v f : Int) (A : Option Addr) (cl : Nat) (xs : List Int) (s : Ws) (b g c : Nat) (ws : List Int) (w : World) (h : WrAt B w r v f A cl xs s) (hm : MemAt w b g c ws) (hg : g < B ∨ r ≤ g) (hed : s.ed = false) (hst : 2 ≤ s.st ∧ ¬ s.st - 2 < xs.length) (hE : doE ws 2 v ≠ 0) :
    Calls Try.prog 26 #[.pointer (some ⟨r, 0, none⟩), memI b] w (WrP B w r v f A cl xs b g c ⟨s, doWs ws 2 v 0 (IntKind.u64.wrap (s.fst + 2)), doE ws 2 v⟩) := by
  have c0 : w.cell? ⟨r, 0, none⟩ = some (.bool true) := h.hd.cell 0
  have c1 : w.cell? ⟨r, 1, none⟩ = some (.int .i64 v) := h.hd.cell 1
  have c2 : w.cell? ⟨r, 2, none⟩ = some (.int .i64 f) := h.hd.cell 2
  have c3 : w.cell? ⟨r, 3, none⟩ = some (.slice A xs.length cl) := h.hd.cell 3
  have c4 : w.cell? ⟨r, 4, none⟩ = some (.int .u64 s.fst) := h.hd.cell 4
  have c5 : w.cell? ⟨r, 5, none⟩ = some (.int .i64 s.st) := h.hd.cell 5
  have c6 : w.cell? ⟨r, 6, none⟩ = some (.bool s.ed) := h.hd.cell 6
  rw [hed] at c6
  have z1 := nil_Load b
  have z2 := method_Load b
  have z3 := nil_Store b
  have z4 := method_Store b
  have okv := h.ok.v0
  have okv1 := h.ok.v1
  have okn1 := h.ok.n1
  have okc := h.cap
  have hf0 := h.f0
  have hrg : r ≠ g := by obtain ⟨sp, hr⟩ := hm.row; exact Blk.ne h.hd hr (by decide)
  have hop := fun W hW => mstore_any b g c ws v (IntKind.u64.wrap (s.fst + 2)) W hW (wrap_bd _)
  generalize doWs ws 2 v 0 (IntKind.u64.wrap (s.fst + 2)) = ws2 at *
  generalize doE ws 2 v = E at *
  have e1 : (E == 0) = false := by rw [beq_eq_false_iff_ne]; exact hE
  clear hE
  have hst1 := hst.1
  have hst2 : s.st = xs.length + 2 := by have := h.fin hed; omega
  rw [hst2] at c5
  have dl : decide (((xs.length + 2 : Nat) : Int) - 2 < (xs.length : Int)) = false := decide_eq_false (by omega)
  have e8 : (((xs.length + 2 : Nat) : Int) == 0) = false := by rw [beq_eq_false_iff_ne]; omega
  have e9 : (((xs.length + 2 : Nat) : Int) == 1) = false := by rw [beq_eq_false_iff_ne]; omega
  clear hst
  have H := Lib.hid h
  have HM := Lib.hid hm
  have hed2 := hed
  clear h hm hed
  go_enter Try.func26, Try.ntmps26
  go_wp2_with fail
  go_region_held3 (fun w' => w'.cell? ⟨r, 1, none⟩ = some (.int .i64 v) ∧ w'.cell? ⟨r, 4, none⟩ = some (.int .u64 s.fst)) (((try go_split_ands); ((repeat' apply And.intro) <;> first | (with_reducible assumption) | go_cell))) (first | (go_at_call 33; ((with_reducible refine (hop _ ?_).mono ?_); (focus (exact HM.out.below (by (repeat' (first | (with_reducible exact Below.refl _ _) | (with_reducible assumption) | (with_reducible refine Below.alloc ?_ ?_ _) | (with_reducible refine Below.drew ?_) | (with_reducible refine below_drewN ?_ _) | (with_reducible refine Below.setCell ?_ ?_ _) | (with_reducible refine Below.trans ?_ (Below.mono (by assumption) ?_)) | (first | go_size | (with_reducible exact Below.size (by assumption)) | (with_reducible exact Nat.le_trans (Below.size (by assumption)) (Below.size (by assumption))) | (refine Nat.le_trans (Below.size (by assumption)) ?_; go_size))))))); rintro e w1 ⟨rfl, hm1, hc1⟩; have k1 : w1.cell? ⟨r, 1, none⟩ = some (.int .i64 v) := hc1.keeps (by go_cell) hrg; have k4 : w1.cell? ⟨r, 4, none⟩ = some (.int .u64 s.fst) := hc1.keeps (by go_cell) hrg)))
  all_goals
    have hC : Ch (fun j => j = g) w w1 := (Ch.of_below (show Below w.heap.size w _ by (repeat' (first | (with_reducible exact Below.refl _ _) | (with_reducible assumption) | (with_reducible refine Below.alloc ?_ ?_ _) | (with_reducible refine Below.drew ?_) | (with_reducible refine below_drewN ?_ _) | (with_reducible refine Below.setCell ?_ ?_ _) | (with_reducible refine Below.trans ?_ (Below.mono (by assumption) ?_)) | (first | go_size | (with_reducible exact Below.size (by assumption)) | (with_reducible exact Nat.le_trans (Below.size (by assumption)) (Below.size (by assumption))) | (refine Nat.le_trans (Below.size (by assumption)) ?_; go_size))))) _).trans hc1 (fun _ _ e => e)
    have h1 := H.out.keep hC hrg (fun q _ q1 q2 e => by omega)
    have d0 : w1.cell? ⟨r, 0, none⟩ = some (.bool true) := h1.hd.cell 0
    have d4 : w1.cell? ⟨r, 4, none⟩ = some (.int .u64 s.fst) := h1.hd.cell 4
    have d5 : w1.cell? ⟨r, 5, none⟩ = some (.int .i64 s.st) := h1.hd.cell 5
    have d6 : w1.cell? ⟨r, 6, none⟩ = some (.bool s.ed) := h1.hd.cell 6
    have f6 := h1.hd.frozen 6; have hs := (h1.hd).set 6 (.bool false)
    have hC2 : Ch (fun j => j = r) w1 (w1.setCell ⟨r, 6, none⟩ (.bool false)) := (Ch.refl (fun j => j = r) w1).setCell (p := ⟨r, 6, none⟩) (.inl rfl) (.bool false)
    have hmr := hm1.keep hC2 (fun e => Blk.ne hm1.hd h1.hd (by decide) e) (fun e => hrg e.symm)
    have hch : Ch (fun j => j = r ∨ j = g) w (w1.setCell ⟨r, 6, none⟩ (.bool false)) := (hC.mono (G := fun j => j = r ∨ j = g) (fun _ _ e => .inr e)).trans hC2 (fun _ _ e => .inl e)
    have hfin : WrAt B (w1.setCell ⟨r, 6, none⟩ (.bool false)) r v f A cl xs s := by
      have e : (wrV v f A xs.length cl s).set 6 (.bool false) = wrV v f A xs.length cl s := by unfold wrV; rw [hed2]; rfl
      rw [e] at hs
      exact ⟨hs, h1.rd.keep hC2 (fun q _ hq e => by omega), h1.cap, h1.capm, h1.wf, h1.ok, h1.st, h1.fin, h1.f0⟩
    have HF := Lib.hid hfin
    have HR := Lib.hid hmr
    have HC := Lib.hid hch
    rw [hst2] at d5
    clear hst2
    clear hfin hmr hch hs hC2 hC hc1 h1 hm1
    go_wp2_with (fail)
    go_ret2
    exact ⟨rfl, HF.out, HR.out, HC.out⟩
set_option maxRecDepth 100000 in
set_option maxHeartbeats 1000000 in
theorem w2_ok (B r : Nat) (v f : Int) (A : Option Addr) (cl : Nat) (xs : List Int) (s : Ws) (b g c : Nat) (ws : List Int) (w : World) (h : WrAt B w r v f A cl xs s) (hm : MemAt w b g c ws) (hg : g < B ∨ r ≤ g) (hed : s.ed = false) (hst : 2 ≤ s.st ∧ s.st - 2 < xs.length) (hE : doE ws 2 (f + ((s.st - 2 : Nat) : Int)) = 0) :
    Calls Try.prog 26 #[.pointer (some ⟨r, 0, none⟩), memI b] w (WrP B w r v f A cl xs b g c ⟨{ s with st := s.st + 1 }, doWs ws 2 (f + ((s.st - 2 : Nat) : Int)) 0 (xs.getD (s.st - 2) 0), 0⟩) := by
  have c0 : w.cell? ⟨r, 0, none⟩ = some (.bool true) := h.hd.cell 0
  have c1 : w.cell? ⟨r, 1, none⟩ = some (.int .i64 v) := h.hd.cell 1
  have c2 : w.cell? ⟨r, 2, none⟩ = some (.int .i64 f) := h.hd.cell 2
  have c3 : w.cell? ⟨r, 3, none⟩ = some (.slice A xs.length cl) := h.hd.cell 3
  have c4 : w.cell? ⟨r, 4, none⟩ = some (.int .u64 s.fst) := h.hd.cell 4
  have c5 : w.cell? ⟨r, 5, none⟩ = some (.int .i64 s.st) := h.hd.cell 5
  have c6 : w.cell? ⟨r, 6, none⟩ = some (.bool s.ed) := h.hd.cell 6
  rw [hed] at c6
  have z1 := nil_Load b
  have z2 := method_Load b
  have z3 := nil_Store b
  have z4 := method_Store b
  have okv := h.ok.v0
  have okv1 := h.ok.v1
  have okn1 := h.ok.n1
  have okc := h.cap
  have hf0 := h.f0
  have hrg : r ≠ g := by obtain ⟨sp, hr⟩ := hm.row; exact Blk.ne h.hd hr (by decide)
  obtain ⟨i, hi⟩ : ∃ i, s.st = i + 2 := ⟨s.st - 2, by omega⟩
  have hix : i < xs.length := by omega
  rw [show s.st - 2 = i by omega] at *
  obtain ⟨bA, oA, rfl, hbA, _, hcx⟩ := (h.rd (by intro e; have := u64s_at xs i hix; rw [e] at this; cases this))
  have hcx := hcx i _ (u64s_at xs i hix)
  have hXb := h.wf _ (show xs.getD i 0 ∈ xs by simp [List.getD, List.getElem?_eq_getElem hix])
  have hbg : bA ≠ g := by omega
  have fr := h.ok.fr (by omega)
  have hop := fun W hW => mstore_any b g c ws (f + (i : Int)) (xs.getD i 0) W hW hXb
  generalize xs.getD i 0 = X at *
  generalize doWs ws 2 (f + (i : Int)) 0 X = ws2 at *
  generalize doE ws 2 (f + (i : Int)) = E at *
  have i1 : (0 : Int) ≤ i := Int.natCast_nonneg _
  have i2 : (i : Int) < xs.length := by omega
  have i3 : (i : Int) < cl := by omega
  rw [hi] at c5
  have hsti : ((i + 2 : Nat) : Int) = (i : Int) + 2 := by omega
  rw [hsti] at c5
  have e8 : ((i : Int) + 2 == 0) = false := by rw [beq_eq_false_iff_ne]; omega
  have e9 : ((i : Int) + 2 == 1) = false := by rw [beq_eq_false_iff_ne]; omega
  have sw0 : IntKind.i64.wrap ((i : Int) + 2 - 2) = i := by rw [show (i : Int) + 2 - 2 = i by omega]; exact IntWalk.i64_in _ (by omega)
  have sw : IntKind.i64.wrap (f + (i : Int)) = f + i := IntWalk.i64_in _ (by omega)
  have HI := Lib.hid hi
  clear hi hst hsti
  subst hE
  have H := Lib.hid h
  have HM := Lib.hid hm
  have hed2 := hed
  clear h hm hed
  go_enter Try.func26, Try.ntmps26
  go_wp2_with fail
  go_region_held3 (fun w' => w'.cell? ⟨r, 2, none⟩ = some (.int .i64 f) ∧ w'.cell? ⟨r, 3, none⟩ = some (.slice (some ⟨bA, oA, none⟩) xs.length cl) ∧ w'.cell? ⟨bA, oA + i, none⟩ = some (.int .u64 X)) (((try go_split_ands); ((repeat' apply And.intro) <;> first | (with_reducible assumption) | go_cell))) (first | (go_at_call 33; ((with_reducible refine (hop _ ?_).mono ?_); (focus (exact HM.out.below (by (repeat' (first | (with_reducible exact Below.refl _ _) | (with_reducible assumption) | (with_reducible refine Below.alloc ?_ ?_ _) | (with_reducible refine Below.drew ?_) | (with_reducible refine below_drewN ?_ _) | (with_reducible refine Below.setCell ?_ ?_ _) | (with_reducible refine Below.trans ?_ (Below.mono (by assumption) ?_)) | (first | go_size | (with_reducible exact Below.size (by assumption)) | (with_reducible exact Nat.le_trans (Below.size (by assumption)) (Below.size (by assumption))) | (refine Nat.le_trans (Below.size (by assumption)) ?_; go_size))))))); rintro e w1 ⟨rfl, hm1, hc1⟩; have k2 : w1.cell? ⟨r, 2, none⟩ = some (.int .i64 f) := hc1.keeps (by go_cell) hrg; have k3 : w1.cell? ⟨r, 3, none⟩ = some (.slice (some ⟨bA, oA, none⟩) xs.length cl) := hc1.keeps (by go_cell) hrg; have kx : w1.cell? ⟨bA, oA + i, none⟩ = some (.int .u64 X) := hc1.keeps (by go_cell) hbg)))
  all_goals
    have hC : Ch (fun j => j = g) w w1 := (Ch.of_below (show Below w.heap.size w _ by (repeat' (first | (with_reducible exact Below.refl _ _) | (with_reducible assumption) | (with_reducible refine Below.alloc ?_ ?_ _) | (with_reducible refine Below.drew ?_) | (with_reducible refine below_drewN ?_ _) | (with_reducible refine Below.setCell ?_ ?_ _) | (with_reducible refine Below.trans ?_ (Below.mono (by assumption) ?_)) | (first | go_size | (with_reducible exact Below.size (by assumption)) | (with_reducible exact Nat.le_trans (Below.size (by assumption)) (Below.size (by assumption))) | (refine Nat.le_trans (Below.size (by assumption)) ?_; go_size))))) _).trans hc1 (fun _ _ e => e)
    have h1 := H.out.keep hC hrg (fun q _ q1 q2 e => by omega)
    have d0 : w1.cell? ⟨r, 0, none⟩ = some (.bool true) := h1.hd.cell 0
    have d4 : w1.cell? ⟨r, 4, none⟩ = some (.int .u64 s.fst) := h1.hd.cell 4
    have d5 : w1.cell? ⟨r, 5, none⟩ = some (.int .i64 s.st) := h1.hd.cell 5
    have d6 : w1.cell? ⟨r, 6, none⟩ = some (.bool s.ed) := h1.hd.cell 6
    have f5 := h1.hd.frozen 5; have hs := (h1.hd).set 5 (.int .i64 ((i : Int) + 3))
    have hC2 : Ch (fun j => j = r) w1 (w1.setCell ⟨r, 5, none⟩ (.int .i64 ((i : Int) + 3))) := (Ch.refl (fun j => j = r) w1).setCell (p := ⟨r, 5, none⟩) (.inl rfl) (.int .i64 ((i : Int) + 3))
    have hmr := hm1.keep hC2 (fun e => Blk.ne hm1.hd h1.hd (by decide) e) (fun e => hrg e.symm)
    have hch : Ch (fun j => j = r ∨ j = g) w (w1.setCell ⟨r, 5, none⟩ (.int .i64 ((i : Int) + 3))) := (hC.mono (G := fun j => j = r ∨ j = g) (fun _ _ e => .inr e)).trans hC2 (fun _ _ e => .inl e)
    have hfin : WrAt B (w1.setCell ⟨r, 5, none⟩ (.int .i64 ((i : Int) + 3))) r v f (some ⟨bA, oA, none⟩) cl xs { s with st := s.st + 1 } := by
      have e : ((s.st + 1 : Nat) : Int) = (i : Int) + 3 := by have := HI.out; omega
      have hs2 : Blk (w1.setCell ⟨r, 5, none⟩ (.int .i64 ((i : Int) + 3))) r 55 (wrV v f (some ⟨bA, oA, none⟩) xs.length cl { s with st := s.st + 1 }) := by
        show Blk _ _ _ [_, _, _, _, _, .int .i64 ((s.st + 1 : Nat) : Int), _]
        rw [e]; exact hs
      exact ⟨hs2, h1.rd.keep hC2 (fun q _ hq e => by omega), h1.cap, h1.capm, h1.wf, h1.ok, by show s.st + 1 ≤ _; have := HI.out; omega, (fun _ => by show s.st + 1 ≤ _; have := HI.out; omega), h1.f0⟩
    have HF := Lib.hid hfin
    have HR := Lib.hid hmr
    have HC := Lib.hid hch
    rw [HI.out, show ((i + 2 : Nat) : Int) = (i : Int) + 2 by omega] at d5
    clear hfin hmr hch hs hC2 hC hc1 h1 hm1
    go_wp2_with (fail)
    go_ret2
    exact ⟨rfl, HF.out, HR.out, HC.out⟩
set_option maxRecDepth 100000 in
set_option maxHeartbeats 1000000 in
theorem w2_err (B r : Nat) (v f : Int) (A : Option Addr) (cl : Nat) (xs : List Int) (s : Ws) (b g c : Nat) (ws : List Int) (w : World) (h : WrAt B w r v f A cl xs s) (hm : MemAt w b g c ws) (hg : g < B ∨ r ≤ g) (hed : s.ed = false) (hst : 2 ≤ s.st ∧ s.st - 2 < xs.length) (hE : doE ws 2 (f + ((s.st - 2 : Nat) : Int)) ≠ 0) :
    Calls Try.prog 26 #[.pointer (some ⟨r, 0, none⟩), memI b] w (WrP B w r v f A cl xs b g c ⟨s, doWs ws 2 (f + ((s.st - 2 : Nat) : Int)) 0 (xs.getD (s.st - 2) 0), doE ws 2 (f + ((s.st - 2 : Nat) : Int))⟩) := by
  have c0 : w.cell? ⟨r, 0, none⟩ = some (.bool true) := h.hd.cell 0
  have c1 : w.cell? ⟨r, 1, none⟩ = some (.int .i64 v) := h.hd.cell 1
  have c2 : w.cell? ⟨r, 2, none⟩ = some (.int .i64 f) := h.hd.cell 2
  have c3 : w.cell? ⟨r, 3, none⟩ = some (.slice A xs.length cl) := h.hd.cell 3
  have c4 : w.cell? ⟨r, 4, none⟩ = some (.int .u64 s.fst) := h.hd.cell 4
  have c5 : w.cell? ⟨r, 5, none⟩ = some (.int .i64 s.st) := h.hd.cell 5
  have c6 : w.cell? ⟨r, 6, none⟩ = some (.bool s.ed) := h.hd.cell 6
  rw [hed] at c6
  have z1 := nil_Load b
  have z2 := method_Load b
  have z3 := nil_Store b
  have z4 := method_Store b
  have okv := h.ok.v0
  have okv1 := h.ok.v1
  have okn1 := h.ok.n1
  have okc := h.cap
  have hf0 := h.f0
  have hrg : r ≠ g := by obtain ⟨sp, hr⟩ := hm.row; exact Blk.ne h.hd hr (by decide)
  obtain ⟨i, hi⟩ : ∃ i, s.st = i + 2 := ⟨s.st - 2, by omega⟩
  have hix : i < xs.length := by omega
  rw [show s.st - 2 = i by omega] at *
  obtain ⟨bA, oA, rfl, hbA, _, hcx⟩ := (h.rd (by intro e; have := u64s_at xs i hix; rw [e] at this; cases this))
  have hcx := hcx i _ (u64s_at xs i hix)
  have hXb := h.wf _ (show xs.getD i 0 ∈ xs by simp [List.getD, List.getElem?_eq_getElem hix])
  have hbg : bA ≠ g := by omega
  have fr := h.ok.fr (by omega)
  have hop := fun W hW => mstore_any b g c ws (f + (i : Int)) (xs.getD i 0) W hW hXb
  generalize xs.getD i 0 = X at *
  generalize doWs ws 2 (f + (i : Int)) 0 X = ws2 at *
  generalize doE ws 2 (f + (i : Int)) = E at *
  have i1 : (0 : Int) ≤ i := Int.natCast_nonneg _
  have i2 : (i : Int) < xs.length := by omega
  have i3 : (i : Int) < cl := by omega
  rw [hi] at c5
  have hsti : ((i + 2 : Nat) : Int) = (i : Int) + 2 := by omega
  rw [hsti] at c5
  have e8 : ((i : Int) + 2 == 0) = false := by rw [beq_eq_false_iff_ne]; omega
  have e9 : ((i : Int) + 2 == 1) = false := by rw [beq_eq_false_iff_ne]; omega
  have sw0 : IntKind.i64.wrap ((i : Int) + 2 - 2) = i := by rw [show (i : Int) + 2 - 2 = i by omega]; exact IntWalk.i64_in _ (by omega)
  have sw : IntKind.i64.wrap (f + (i : Int)) = f + i := IntWalk.i64_in _ (by omega)
  have HI := Lib.hid hi
  clear hi hst hsti
  have e1 : (E == 0) = false := by rw [beq_eq_false_iff_ne]; exact hE
  clear hE
  have H := Lib.hid h
  have HM := Lib.hid hm
  have hed2 := hed
  clear h hm hed
  go_enter Try.func26, Try.ntmps26
  go_wp2_with fail
  go_region_held3 (fun w' => w'.cell? ⟨r, 2, none⟩ = some (.int .i64 f) ∧ w'.cell? ⟨r, 3, none⟩ = some (.slice (some ⟨bA, oA, none⟩) xs.length cl) ∧ w'.cell? ⟨bA, oA + i, none⟩ = some (.int .u64 X)) (((try go_split_ands); ((repeat' apply And.intro) <;> first | (with_reducible assumption) | go_cell))) (first | (go_at_call 33; ((with_reducible refine (hop _ ?_).mono ?_); (focus (exact HM.out.below (by (repeat' (first | (with_reducible exact Below.refl _ _) | (with_reducible assumption) | (with_reducible refine Below.alloc ?_ ?_ _) | (with_reducible refine Below.drew ?_) | (with_reducible refine below_drewN ?_ _) | (with_reducible refine Below.setCell ?_ ?_ _) | (with_reducible refine Below.trans ?_ (Below.mono (by assumption) ?_)) | (first | go_size | (with_reducible exact Below.size (by assumption)) | (with_reducible exact Nat.le_trans (Below.size (by assumption)) (Below.size (by assumption))) | (refine Nat.le_trans (Below.size (by assumption)) ?_; go_size))))))); rintro e w1 ⟨rfl, hm1, hc1⟩; have k2 : w1.cell? ⟨r, 2, none⟩ = some (.int .i64 f) := hc1.keeps (by go_cell) hrg; have k3 : w1.cell? ⟨r, 3, none⟩ = some (.slice (some ⟨bA, oA, none⟩) xs.length cl) := hc1.keeps (by go_cell) hrg; have kx : w1.cell? ⟨bA, oA + i, none⟩ = some (.int .u64 X) := hc1.keeps (by go_cell) hbg)))
  all_goals
    have hC : Ch (fun j => j = g) w w1 := (Ch.of_below (show Below w.heap.size w _ by (repeat' (first | (with_reducible exact Below.refl _ _) | (with_reducible assumption) | (with_reducible refine Below.alloc ?_ ?_ _) | (with_reducible refine Below.drew ?_) | (with_reducible refine below_drewN ?_ _) | (with_reducible refine Below.setCell ?_ ?_ _) | (with_reducible refine Below.trans ?_ (Below.mono (by assumption) ?_)) | (first | go_size | (with_reducible exact Below.size (by assumption)) | (with_reducible exact Nat.le_trans (Below.size (by assumption)) (Below.size (by assumption))) | (refine Nat.le_trans (Below.size (by assumption)) ?_; go_size))))) _).trans hc1 (fun _ _ e => e)
    have h1 := H.out.keep hC hrg (fun q _ q1 q2 e => by omega)
    have d0 : w1.cell? ⟨r, 0, none⟩ = some (.bool true) := h1.hd.cell 0
    have d4 : w1.cell? ⟨r, 4, none⟩ = some (.int .u64 s.fst) := h1.hd.cell 4
    have d5 : w1.cell? ⟨r, 5, none⟩ = some (.int .i64 s.st) := h1.hd.cell 5
    have d6 : w1.cell? ⟨r, 6, none⟩ = some (.bool s.ed) := h1.hd.cell 6
    have hs := h1.hd
    have hC2 : Ch (fun j => j = r) w1 w1 := Ch.refl (fun j => j = r) w1
    have hmr := hm1.keep hC2 (fun e => Blk.ne hm1.hd h1.hd (by decide) e) (fun e => hrg e.symm)
    have hch : Ch (fun j => j = r ∨ j = g) w w1 := (hC.mono (G := fun j => j = r ∨ j = g) (fun _ _ e => .inr e)).trans hC2 (fun _ _ e => .inl e)
    have hfin : WrAt B w1 r v f (some ⟨bA, oA, none⟩) cl xs s := ⟨hs, h1.rd.keep hC2 (fun q _ hq e => by omega), h1.cap, h1.capm, h1.wf, h1.ok, h1.st, h1.fin, h1.f0⟩
    have HF := Lib.hid hfin
    have HR := Lib.hid hmr
    have HC := Lib.hid hch
    rw [HI.out, show ((i + 2 : Nat) : Int) = (i : Int) + 2 by omega] at d5
    clear hfin hmr hch hs hC2 hC hc1 h1 hm1
    go_wp2_with (fail)
    go_ret2
    exact ⟨rfl, HF.out, HR.out, HC.out⟩
end Go.Proofs.Ytbhcgmiglkocbaa
