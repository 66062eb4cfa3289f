/-
  Contracts of package thread: what a machine answers of a thread.
-/
import Derived.Test.YtmbofohdjdipdaaTh9
namespace Go.Proofs.Ytmbofohdjdipdaa
open Go.RowKit

theorem madone_in (M : MaR) (ws : List Int) (j : Nat) (q : ThR) (w : World) (h : MaAt w M ws) (hq : M.qs[j]? = some q) :
    Calls Try.prog 28 #[.pointer (some ⟨M.r, 0, none⟩), .int .i64 j] w fun e w' => e = .returned (.bool q.t.x.done) ∧ w = w' := by
  obtain ⟨lb, c, hlv, hcl, hcm, _, e0, e1, e2⟩ := h.at hq
  have hj : j < M.qs.length := (List.getElem?_eq_some_iff.1 hq).1
  have c1 := h.c1
  rw [hlv] at c1
  have hno := manone_ok M ws j w h
  rw [noneB_in hj] at hno
  have hpr := h.pr q (List.mem_of_getElem? hq)
  have hd := hpr.ok
  have i1 : (0 : Int) ≤ j := Int.natCast_nonneg _
  have i2 : (j : Int) < M.qs.length := by omega
  have z1 := hd.nd
  have z2 := hd.md
  have z3 := hd.kd
  have hc := p_done hpr
  generalize M.qs.length = n at *
  go_enter Try.func28, Try.ntmps28
  go_wp2_with (first | (go_at_call 61; refine hno.mono ?_; rintro e w1 ⟨rfl, rfl⟩) | ((with_reducible refine hc.mono ?_); rintro e w1 ⟨rfl, rfl⟩))
  go_ret
  exact ⟨rfl, rfl⟩

theorem maresult_in (M : MaR) (ws : List Int) (j : Nat) (q : ThR) (w : World) (h : MaAt w M ws) (hq : M.qs[j]? = some q) :
    Calls Try.prog 29 #[.pointer (some ⟨M.r, 0, none⟩), .int .i64 j] w fun e w' => e = .returned (.int .u64 q.t.x.res) ∧ w = w' := by
  obtain ⟨lb, c, hlv, hcl, hcm, _, e0, e1, e2⟩ := h.at hq
  have hj : j < M.qs.length := (List.getElem?_eq_some_iff.1 hq).1
  have c1 := h.c1
  rw [hlv] at c1
  have hno := manone_ok M ws j w h
  rw [noneB_in hj] at hno
  have hpr := h.pr q (List.mem_of_getElem? hq)
  have hd := hpr.ok
  have i1 : (0 : Int) ≤ j := Int.natCast_nonneg _
  have i2 : (j : Int) < M.qs.length := by omega
  have z1 := hd.nr
  have z2 := hd.mr
  have z3 := hd.kr
  have hc := p_result hpr
  generalize M.qs.length = n at *
  go_enter Try.func29, Try.ntmps29
  go_wp2_with (first | (go_at_call 61; refine hno.mono ?_; rintro e w1 ⟨rfl, rfl⟩) | ((with_reducible refine hc.mono ?_); rintro e w1 ⟨rfl, rfl⟩))
  go_ret
  exact ⟨rfl, rfl⟩

theorem masteps_in (M : MaR) (ws : List Int) (j : Nat) (q : ThR) (w : World) (h : MaAt w M ws) (hq : M.qs[j]? = some q) :
    Calls Try.prog 27 #[.pointer (some ⟨M.r, 0, none⟩), .int .i64 j] w fun e w' => e = .returned (.int .i64 q.t.steps) ∧ w = w' := by
  obtain ⟨lb, c, hlv, hcl, hcm, _, e0, e1, e2⟩ := h.at hq
  have hj : j < M.qs.length := (List.getElem?_eq_some_iff.1 hq).1
  have c1 := h.c1
  rw [hlv] at c1
  have hno := manone_ok M ws j w h
  rw [noneB_in hj] at hno
  have hpr := h.pr q (List.mem_of_getElem? hq)
  have hd := hpr.ok
  have i1 : (0 : Int) ≤ j := Int.natCast_nonneg _
  have i2 : (j : Int) < M.qs.length := by omega
  generalize M.qs.length = n at *
  go_enter Try.func27, Try.ntmps27
  go_wp2_with (first | (go_at_call 61; refine hno.mono ?_; rintro e w1 ⟨rfl, rfl⟩))
  go_ret
  exact ⟨rfl, rfl⟩

theorem malooks_in (M : MaR) (ws : List Int) (j : Nat) (q : ThR) (w : World) (h : MaAt w M ws) (hq : M.qs[j]? = some q) :
    Calls Try.prog 39 #[.pointer (some ⟨M.r, 0, none⟩), .int .i64 j] w fun e w' => e = .returned (.int .i64 q.t.looks) ∧ w = w' := by
  obtain ⟨lb, c, hlv, hcl, hcm, _, e0, e1, e2⟩ := h.at hq
  have hj : j < M.qs.length := (List.getElem?_eq_some_iff.1 hq).1
  have c1 := h.c1
  rw [hlv] at c1
  have hno := manone_ok M ws j w h
  rw [noneB_in hj] at hno
  have hpr := h.pr q (List.mem_of_getElem? hq)
  have hd := hpr.ok
  have i1 : (0 : Int) ≤ j := Int.natCast_nonneg _
  have i2 : (j : Int) < M.qs.length := by omega
  generalize M.qs.length = n at *
  go_enter Try.func39, Try.ntmps39
  go_wp2_with (first | (go_at_call 61; refine hno.mono ?_; rintro e w1 ⟨rfl, rfl⟩))
  go_ret
  exact ⟨rfl, rfl⟩

theorem maprogram_in (M : MaR) (ws : List Int) (j : Nat) (q : ThR) (w : World) (h : MaAt w M ws) (hq : M.qs[j]? = some q) :
    Calls Try.prog 40 #[.pointer (some ⟨M.r, 0, none⟩), .int .i64 j] w (PCopyP w q.t.x) := by
  obtain ⟨lb, c, hlv, hcl, hcm, _, e0, e1, e2⟩ := h.at hq
  have hj : j < M.qs.length := (List.getElem?_eq_some_iff.1 hq).1
  have c1 := h.c1
  rw [hlv] at c1
  have hno := manone_ok M ws j w h
  rw [noneB_in hj] at hno
  have hpr := h.pr q (List.mem_of_getElem? hq)
  have hd := hpr.ok
  have i1 : (0 : Int) ≤ j := Int.natCast_nonneg _
  have i2 : (j : Int) < M.qs.length := by omega
  have z1 := hd.nc
  have z2 := hd.mc
  have z3 := hd.kc
  have hc := p_copy hpr
  generalize M.qs.length = n at *
  go_enter Try.func40, Try.ntmps40
  go_wp2_with (first | (go_at_call 61; refine hno.mono ?_; rintro e w1 ⟨rfl, rfl⟩) | ((with_reducible refine hc.mono ?_); rintro e w1 ⟨hb, d2, fs2, rfl, hp, hk⟩))
  go_ret
  exact ⟨hb, d2, fs2, rfl, hp, hk⟩

theorem madone_out (M : MaR) (ws : List Int) (t : Int) (w : World) (h : MaAt w M ws) (ht : t < 0 ∨ (M.qs.length : Int) ≤ t) :
    Calls Try.prog 28 #[.pointer (some ⟨M.r, 0, none⟩), .int .i64 t] w fun e w' => e = .returned (.bool false) ∧ w = w' := by
  have hno := manone_ok M ws t w h
  rw [noneB_out ht] at hno
  clear ht
  go_enter Try.func28, Try.ntmps28
  go_wp2_with (go_at_call 61; refine hno.mono ?_; rintro e w1 ⟨rfl, rfl⟩)
  go_ret
  exact ⟨rfl, rfl⟩

theorem maresult_out (M : MaR) (ws : List Int) (t : Int) (w : World) (h : MaAt w M ws) (ht : t < 0 ∨ (M.qs.length : Int) ≤ t) :
    Calls Try.prog 29 #[.pointer (some ⟨M.r, 0, none⟩), .int .i64 t] w fun e w' => e = .returned (.int .u64 0) ∧ w = w' := by
  have hno := manone_ok M ws t w h
  rw [noneB_out ht] at hno
  clear ht
  go_enter Try.func29, Try.ntmps29
  go_wp2_with (go_at_call 61; refine hno.mono ?_; rintro e w1 ⟨rfl, rfl⟩)
  go_ret
  exact ⟨rfl, rfl⟩

theorem masteps_out (M : MaR) (ws : List Int) (t : Int) (w : World) (h : MaAt w M ws) (ht : t < 0 ∨ (M.qs.length : Int) ≤ t) :
    Calls Try.prog 27 #[.pointer (some ⟨M.r, 0, none⟩), .int .i64 t] w fun e w' => e = .returned (.int .i64 0) ∧ w = w' := by
  have hno := manone_ok M ws t w h
  rw [noneB_out ht] at hno
  clear ht
  go_enter Try.func27, Try.ntmps27
  go_wp2_with (go_at_call 61; refine hno.mono ?_; rintro e w1 ⟨rfl, rfl⟩)
  go_ret
  exact ⟨rfl, rfl⟩

theorem malooks_out (M : MaR) (ws : List Int) (t : Int) (w : World) (h : MaAt w M ws) (ht : t < 0 ∨ (M.qs.length : Int) ≤ t) :
    Calls Try.prog 39 #[.pointer (some ⟨M.r, 0, none⟩), .int .i64 t] w fun e w' => e = .returned (.int .i64 0) ∧ w = w' := by
  have hno := manone_ok M ws t w h
  rw [noneB_out ht] at hno
  clear ht
  go_enter Try.func39, Try.ntmps39
  go_wp2_with (go_at_call 61; refine hno.mono ?_; rintro e w1 ⟨rfl, rfl⟩)
  go_ret
  exact ⟨rfl, rfl⟩

theorem maprogram_out (M : MaR) (ws : List Int) (t : Int) (w : World) (h : MaAt w M ws) (ht : t < 0 ∨ (M.qs.length : Int) ≤ t) :
    Calls Try.prog 40 #[.pointer (some ⟨M.r, 0, none⟩), .int .i64 t] w fun e w' => e = .returned .nilIface ∧ w = w' := by
  have hno := manone_ok M ws t w h
  rw [noneB_out ht] at hno
  clear ht
  go_enter Try.func40, Try.ntmps40
  go_wp2_with (go_at_call 61; refine hno.mono ?_; rintro e w1 ⟨rfl, rfl⟩)
  go_ret
  exact ⟨rfl, rfl⟩

theorem mawaits_out (M : MaR) (ws : List Int) (t : Int) (w : World) (h : MaAt w M ws) (ht : t < 0 ∨ (M.qs.length : Int) ≤ t) :
    Calls Try.prog 36 #[.pointer (some ⟨M.r, 0, none⟩), .int .i64 t] w fun e w' => e = .returned (.bool false) ∧ w = w' := by
  have hno := manone_ok M ws t w h
  rw [noneB_out ht] at hno
  clear ht
  go_enter Try.func36, Try.ntmps36
  go_wp2_with (go_at_call 61; refine hno.mono ?_; rintro e w1 ⟨rfl, rfl⟩)
  go_ret
  exact ⟨rfl, rfl⟩

theorem mamem_ok (M : MaR) (ws : List Int) (w : World) (h : MaAt w M ws) :
    Calls Try.prog 41 #[.pointer (some ⟨M.r, 0, none⟩)] w fun e w' => ∃ b g c, e = .returned (.pointer (some ⟨b, 0, none⟩)) ∧ MemAt w' b g c ws ∧ w.heap.size ≤ b ∧ w.heap.size ≤ g ∧ Below w.heap.size w w' := by
  have c0 := h.c0
  have hz := mazero_ok M ws w h
  have hc := mcopy_ok M.b M.g M.c ws w h.mem
  go_enter Try.func41, Try.ntmps41
  go_wp2_with (first | (go_at_call 60; refine hz.mono ?_; rintro e w1 ⟨rfl, rfl⟩) | (go_at_call 44; refine hc.mono ?_; rintro e w1 ⟨b, g, c, rfl, h1, h2, h3, h4⟩))
  go_ret
  exact ⟨b, g, c, rfl, h1, h2, h3, h4⟩
theorem manew_ok (b g c : Nat) (ws : List Int) (w : World) (h : MemAt w b g c ws) :
    Calls Try.prog 12 #[.pointer (some ⟨b, 0, none⟩)] w fun e w' => Below w.heap.size w w' ∧ ∃ M, e = .returned (.tuple #[.pointer (some ⟨M.r, 0, none⟩), .int .i64 0]) ∧ MaAt w' M ws ∧ M.qs = [] ∧ ∀ k, M.foot k → w.heap.size ≤ k := by
  have hc := mcopy_ok b g c ws w h
  go_enter Try.func12, Try.ntmps12
  go_wp2_with (go_at_call 44; refine hc.mono ?_; rintro e w1 ⟨b2, g2, c2, rfl, h1, h2, h3, h4⟩)
  go_ret2
  have hz := h4.size
  refine ⟨by (repeat' (first | (with_reducible exact Below.refl _ _) | (with_reducible assumption) | (with_reducible refine Below.alloc ?_ ?_ _) | (with_reducible refine Below.drew ?_) | (with_reducible refine below_drewN ?_ _) | (with_reducible refine Below.setCell ?_ ?_ _) | (with_reducible refine Below.trans ?_ (Below.mono (by assumption) ?_)) | (first | go_size | (with_reducible exact Below.size (by assumption)) | (with_reducible exact Nat.le_trans (Below.size (by assumption)) (Below.size (by assumption))) | (refine Nat.le_trans (Below.size (by assumption)) ?_; go_size)))), ⟨w1.heap.size, b2, g2, c2, .slice none 0 0, []⟩, rfl, ⟨Blk.new _ _ _, h1.keep ((Ch.refl (fun _ => False) _).alloc _) (fun e => e) (fun e => e), own_none _ _ _ _, (fun q hq => by cases hq), List.Pairwise.nil, Nat.zero_le _⟩, rfl, fun k hk => ?_⟩
  rcases hk with rfl | rfl | rfl | hk | ⟨q, hq, _⟩
  · exact hz
  · exact h2
  · exact h3
  · cases hk
  · cases hq
end Go.Proofs.Ytmbofohdjdipdaa
