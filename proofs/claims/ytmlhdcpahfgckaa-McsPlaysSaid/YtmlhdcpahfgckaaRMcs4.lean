/-
  Contracts of the reference of mcs: new programs, and a step on words.
-/
import Derived.Test.YtmlhdcpahfgckaaRMcs3
import Derived.Test.YtmlhdcpahfgckaaMcs7
import Derived.Laws.Rows
import Derived.Laws.Tables
namespace Go.Proofs.Ytmlhdcpahfgckaa
open Go.RowKit

set_option maxRecDepth 100000 in
set_option maxHeartbeats 1000000 in
theorem rnew_ok (B t lock node : Int) (bk : Bool) (w : World) (t1 : 1 ≤ t) (t2 : t ≤ 64) (hB : 0 ≤ B) (hB2 : B ≤ 65536) (hk : okRun B t lock node) :
    Calls Try.prog 16 #[rnd B t, .int .i64 lock, .int .i64 node, .bool bk] w fun e w' => e = .returned (.tuple #[rrun7 B t lock node bk 1 0 false, .int .i64 0]) ∧ Below w.heap.size w w' := by
  obtain ⟨k1, k2, k3, k4, k5⟩ := hk
  have d1 : decide (lock < 0) = false := decide_eq_false (by omega)
  have d2 : decide (65536 ≤ lock) = false := decide_eq_false (by omega)
  by_cases hi : B ≤ lock
  · have d3 : decide (B ≤ lock) = true := decide_eq_true hi
    have d4 : decide (lock < B + 6 * t) = false := decide_eq_false (by omega)
    clear k3
    go_enter Try.func16, Try.ntmps16
    go_wp2_with (go_at_call 27; refine (rhas_ok B t _ _ (by omega) (by omega) (by omega) (by omega)).mono ?_; rintro e w' ⟨rfl, rfl⟩)
    refine bodyPost_ret (v := .tuple #[rrun7 B t lock node bk 1 0 false, .int .i64 0]) (by simp [results, go_sem]) rfl ?_
    exact ⟨rfl, by (repeat' (first | (with_reducible exact Below.refl _ _) | (with_reducible assumption) | (with_reducible refine Below.alloc ?_ ?_ _) | (with_reducible refine Below.drew ?_) | (with_reducible refine below_drewN ?_ _) | (with_reducible refine Below.setCell ?_ ?_ _) | (with_reducible refine Below.trans ?_ (Below.mono (by assumption) ?_)) | (first | go_size | (with_reducible exact Below.size (by assumption)) | (with_reducible exact Nat.le_trans (Below.size (by assumption)) (Below.size (by assumption))) | (refine Nat.le_trans (Below.size (by assumption)) ?_; go_size))))⟩
  · have d3 : decide (B ≤ lock) = false := decide_eq_false hi
    clear k3
    go_enter Try.func16, Try.ntmps16
    go_wp2_with (go_at_call 27; refine (rhas_ok B t _ _ (by omega) (by omega) (by omega) (by omega)).mono ?_; rintro e w' ⟨rfl, rfl⟩)
    refine bodyPost_ret (v := .tuple #[rrun7 B t lock node bk 1 0 false, .int .i64 0]) (by simp [results, go_sem]) rfl ?_
    exact ⟨rfl, by (repeat' (first | (with_reducible exact Below.refl _ _) | (with_reducible assumption) | (with_reducible refine Below.alloc ?_ ?_ _) | (with_reducible refine Below.drew ?_) | (with_reducible refine below_drewN ?_ _) | (with_reducible refine Below.setCell ?_ ?_ _) | (with_reducible refine Below.trans ?_ (Below.mono (by assumption) ?_)) | (first | go_size | (with_reducible exact Below.size (by assumption)) | (with_reducible exact Nat.le_trans (Below.size (by assumption)) (Below.size (by assumption))) | (refine Nat.le_trans (Below.size (by assumption)) ?_; go_size))))⟩
set_option maxRecDepth 100000 in
set_option maxHeartbeats 2000000 in
theorem rnew_bad (B t lock node : Int) (bk : Bool) (w : World) (t1 : 1 ≤ t) (t2 : t ≤ 64) (hB : 0 ≤ B) (hB2 : B ≤ 65536) (hk : ¬ okRun B t lock node) :
    Calls Try.prog 16 #[rnd B t, .int .i64 lock, .int .i64 node, .bool bk] w fun e w' => e = .returned (.tuple #[rrun7 0 0 0 0 false 0 0 false, .int .i64 2]) ∧ Below w.heap.size w w' := by
  unfold okRun at hk
  have hkk := Lib.hid hk
  clear hk
  by_cases d1 : lock < 0
  · have e1 : decide (lock < 0) = true := decide_eq_true d1
    go_enter Try.func16, Try.ntmps16
    go_wp2_with fail
    refine bodyPost_ret (v := .tuple #[rrun7 0 0 0 0 false 0 0 false, .int .i64 2]) (by simp [results, go_sem]) rfl ?_
    exact ⟨rfl, by (repeat' (first | (with_reducible exact Below.refl _ _) | (with_reducible assumption) | (with_reducible refine Below.alloc ?_ ?_ _) | (with_reducible refine Below.drew ?_) | (with_reducible refine below_drewN ?_ _) | (with_reducible refine Below.setCell ?_ ?_ _) | (with_reducible refine Below.trans ?_ (Below.mono (by assumption) ?_)) | (first | go_size | (with_reducible exact Below.size (by assumption)) | (with_reducible exact Nat.le_trans (Below.size (by assumption)) (Below.size (by assumption))) | (refine Nat.le_trans (Below.size (by assumption)) ?_; go_size))))⟩
  have e1 : decide (lock < 0) = false := decide_eq_false d1
  by_cases d2 : 65536 ≤ lock
  · have e2 : decide (65536 ≤ lock) = true := decide_eq_true d2
    go_enter Try.func16, Try.ntmps16
    go_wp2_with fail
    refine bodyPost_ret (v := .tuple #[rrun7 0 0 0 0 false 0 0 false, .int .i64 2]) (by simp [results, go_sem]) rfl ?_
    exact ⟨rfl, by (repeat' (first | (with_reducible exact Below.refl _ _) | (with_reducible assumption) | (with_reducible refine Below.alloc ?_ ?_ _) | (with_reducible refine Below.drew ?_) | (with_reducible refine below_drewN ?_ _) | (with_reducible refine Below.setCell ?_ ?_ _) | (with_reducible refine Below.trans ?_ (Below.mono (by assumption) ?_)) | (first | go_size | (with_reducible exact Below.size (by assumption)) | (with_reducible exact Nat.le_trans (Below.size (by assumption)) (Below.size (by assumption))) | (refine Nat.le_trans (Below.size (by assumption)) ?_; go_size))))⟩
  have e2 : decide (65536 ≤ lock) = false := decide_eq_false d2
  by_cases hi : B ≤ lock
  · have e3 : decide (B ≤ lock) = true := decide_eq_true hi
    by_cases hj : lock < B + 6 * t
    · have e4 : decide (lock < B + 6 * t) = true := decide_eq_true hj
      go_enter Try.func16, Try.ntmps16
      go_wp2_with fail
      refine bodyPost_ret (v := .tuple #[rrun7 0 0 0 0 false 0 0 false, .int .i64 2]) (by simp [results, go_sem]) rfl ?_
      exact ⟨rfl, by (repeat' (first | (with_reducible exact Below.refl _ _) | (with_reducible assumption) | (with_reducible refine Below.alloc ?_ ?_ _) | (with_reducible refine Below.drew ?_) | (with_reducible refine below_drewN ?_ _) | (with_reducible refine Below.setCell ?_ ?_ _) | (with_reducible refine Below.trans ?_ (Below.mono (by assumption) ?_)) | (first | go_size | (with_reducible exact Below.size (by assumption)) | (with_reducible exact Nat.le_trans (Below.size (by assumption)) (Below.size (by assumption))) | (refine Nat.le_trans (Below.size (by assumption)) ?_; go_size))))⟩
    · have e4 : decide (lock < B + 6 * t) = false := decide_eq_false hj
      have hn : node < 0 ∨ 2 * t ≤ node := by have := hkk.out; omega
      go_enter Try.func16, Try.ntmps16
      go_wp2_with (go_at_call 27; refine (rhas_bad B t _ _ (by omega) (by omega) hn).mono ?_; rintro e w' ⟨rfl, rfl⟩)
      refine bodyPost_ret (v := .tuple #[rrun7 0 0 0 0 false 0 0 false, .int .i64 2]) (by simp [results, go_sem]) rfl ?_
      exact ⟨rfl, by (repeat' (first | (with_reducible exact Below.refl _ _) | (with_reducible assumption) | (with_reducible refine Below.alloc ?_ ?_ _) | (with_reducible refine Below.drew ?_) | (with_reducible refine below_drewN ?_ _) | (with_reducible refine Below.setCell ?_ ?_ _) | (with_reducible refine Below.trans ?_ (Below.mono (by assumption) ?_)) | (first | go_size | (with_reducible exact Below.size (by assumption)) | (with_reducible exact Nat.le_trans (Below.size (by assumption)) (Below.size (by assumption))) | (refine Nat.le_trans (Below.size (by assumption)) ?_; go_size))))⟩
  · have e3 : decide (B ≤ lock) = false := decide_eq_false hi
    have hn : node < 0 ∨ 2 * t ≤ node := by have := hkk.out; omega
    go_enter Try.func16, Try.ntmps16
    go_wp2_with (go_at_call 27; refine (rhas_bad B t _ _ (by omega) (by omega) hn).mono ?_; rintro e w' ⟨rfl, rfl⟩)
    refine bodyPost_ret (v := .tuple #[rrun7 0 0 0 0 false 0 0 false, .int .i64 2]) (by simp [results, go_sem]) rfl ?_
    exact ⟨rfl, by (repeat' (first | (with_reducible exact Below.refl _ _) | (with_reducible assumption) | (with_reducible refine Below.alloc ?_ ?_ _) | (with_reducible refine Below.drew ?_) | (with_reducible refine below_drewN ?_ _) | (with_reducible refine Below.setCell ?_ ?_ _) | (with_reducible refine Below.trans ?_ (Below.mono (by assumption) ?_)) | (first | go_size | (with_reducible exact Below.size (by assumption)) | (with_reducible exact Nat.le_trans (Below.size (by assumption)) (Below.size (by assumption))) | (refine Nat.le_trans (Below.size (by assumption)) ?_; go_size))))⟩

abbrev rc8 (B t : Int) (bk : Bool) (y : Rn) : List Value := [.int .i64 B, .int .i64 t, .int .i64 y.lock, .int .i64 y.node, .bool bk, .int .i64 y.pc, .int .u64 y.other, .bool y.ended]
abbrev z8 : List Value := [.int .i64 0, .int .i64 0, .int .i64 0, .int .i64 0, .bool false, .int .i64 0, .int .u64 0, .bool false]
theorem rrow (w : World) (g : Nat) (old new : List Value) (h : Blk w g 46 old) (hn : new.length = 8) :
    Blk (w.setRow g new.toArray) g 46 new ∧ (loadVar 46 ⟨g, 0, none⟩).run Try.prog (w.setRow g new.toArray) = .ok (.agg new.toArray) (w.setRow g new.toArray) ∧ Ch (fun j => j = g) w (w.setRow g new.toArray) := by
  have hi : (Try.prog.info? 46).map (·.size) = some new.toArray.size := by
    rw [List.size_toArray, hn]
    kernel_rfl
  have hb : Blk (w.setRow g new.toArray) g 46 new := setRow_heap w g old.toArray new.toArray 46 (0, 0) h
  exact ⟨hb, run_loadVar_row _ g _ _ new.toArray (0, 0) _ hb Try.underlying46 rfl hi, ⟨rfl, rfl, rfl, by simp [World.setRow], fun k _ hk => setRow_other w g k _ hk⟩⟩
theorem rc8_cells {w : World} {g : Nat} {B t : Int} {bk : Bool} {y : Rn} (h : Blk w g 46 (rc8 B t bk y)) : w.cell? ⟨g, 0, none⟩ = some (.int .i64 B) ∧ w.cell? ⟨g, 1, none⟩ = some (.int .i64 t) ∧ w.cell? ⟨g, 2, none⟩ = some (.int .i64 y.lock) ∧ w.cell? ⟨g, 3, none⟩ = some (.int .i64 y.node) ∧ w.cell? ⟨g, 4, none⟩ = some (.bool bk) ∧ w.cell? ⟨g, 5, none⟩ = some (.int .i64 y.pc) ∧ w.cell? ⟨g, 6, none⟩ = some (.int .u64 y.other) ∧ w.cell? ⟨g, 7, none⟩ = some (.bool y.ended) :=
  ⟨h.cell 0, h.cell 1, h.cell 2, h.cell 3, h.cell 4, h.cell 5, h.cell 6, h.cell 7⟩
def NextP (G : Nat → Prop) (B t : Int) (bk : Bool) (n : Nat) (o : Out) (w : World) (e : Ending) (w' : World) : Prop :=
  ∃ A c, e = .returned (.tuple #[rrun B t bk o.x, .slice A n c, .bool o.wt, .int .i64 o.e]) ∧ Rd (fun b => G b ∨ w.heap.size ≤ b) w' A (u64s o.ws) ∧ n ≤ c ∧ c ≤ 9223372036854775807 ∧ (A = none → c = 0) ∧ Below w.heap.size w w'
set_option maxRecDepth 100000 in
set_option maxHeartbeats 2000000 in
theorem rnext_any (B t : Int) (bk : Bool) (y : Rn) (A : Option Addr) (ws : List Int) (n c : Nat) (G : Nat → Prop) (w : World) (h : ROk B t bk y) (hr : Rd G w A (u64s ws)) (hl : ws.length = n) (hc : n ≤ c) (hcm : c ≤ 9223372036854775807) (hn : n ≤ 100000) (hA : A = none → c = 0) :
    Calls Try.prog 28 #[rrun B t bk y, .slice A n c] w (NextP G B t bk n (nxt bk B t y ws) w) := by
  have hacc := fun W => racc_any B t bk y W h
  have haf := accOf_af h
  have HL := Lib.hid hl
  clear hl
  by_cases he : (accOf B t bk y).e = 0
  · have hend := accOf_ended he
    have haft := fun bef i k a W => raft_any B t bk y k i bef a W h hend
    by_cases hd : doE ws (accOf B t bk y).k (accOf B t bk y).i = 0
    · have HN : Hid (nxt bk B t y ws = ⟨(aft bk y (doB ws (accOf B t bk y).k (accOf B t bk y).i)).1, doWs ws (accOf B t bk y).k (accOf B t bk y).i (accOf B t bk y).bf (accOf B t bk y).af, (aft bk y (doB ws (accOf B t bk y).k (accOf B t bk y).i)).2, 0⟩) := (show _ = _ from by unfold nxt; rw [if_neg (by simpa using he), if_neg (by simpa using hd)])
      generalize accOf B t bk y = a at *
      unfold AccP at hacc
      rw [he] at hacc
      obtain ⟨ak, ai, abf, aaf, ae⟩ := a
      dsimp only at hacc he hd HN haf
      have hdo := fun A' G' W hr' => rdo_n A' ws n c ak ai abf aaf G' W hr' HL.out hc hcm hn
      unfold RDoN at hdo
      rw [hd] at hdo
      generalize hy2 : aft bk y (doB ws ak ai) = y2 at HN
      have HA := Lib.hid hy2
      clear he hd hend hy2
      go_enter Try.func28, Try.ntmps28
      go_wp2_with fail
      refine (hacc _).mono ?_
      rintro e w1 ⟨rfl, hB1⟩
      have hR1 : Blk w1 w.heap.size 46 (rc8 B t bk y) := Blk.keep (Blk.new w _ _) (Ch.of_below (show Below _ (w.alloc _) w1 from Below.trans (by (repeat' (first | (with_reducible exact Below.refl _ _) | (with_reducible assumption) | (with_reducible refine Below.alloc ?_ ?_ _) | (with_reducible refine Below.drew ?_) | (with_reducible refine below_drewN ?_ _) | (with_reducible refine Below.setCell ?_ ?_ _) | (with_reducible refine Below.trans ?_ (Below.mono (by assumption) ?_)) | (first | go_size | (with_reducible exact Below.size (by assumption)) | (with_reducible exact Nat.le_trans (Below.size (by assumption)) (Below.size (by assumption))) | (refine Nat.le_trans (Below.size (by assumption)) ?_; go_size))))) (hB1.mono (by simp))) (fun _ => False)) (fun e => e); have hO1 : Blk w1 (w.heap.size + 1) 46 z8 := Blk.keep (show Blk ((w.alloc _).alloc _) (w.heap.size + 1) _ z8 from by have := Blk.new (w.alloc (.cells (rc8 B t bk y).toArray 46)) 46 z8; rwa [World.size_alloc] at this) (Ch.of_below (show Below _ ((w.alloc _).alloc _) w1 from Below.trans (by (repeat' (first | (with_reducible exact Below.refl _ _) | (with_reducible assumption) | (with_reducible refine Below.alloc ?_ ?_ _) | (with_reducible refine Below.drew ?_) | (with_reducible refine below_drewN ?_ _) | (with_reducible refine Below.setCell ?_ ?_ _) | (with_reducible refine Below.trans ?_ (Below.mono (by assumption) ?_)) | (first | go_size | (with_reducible exact Below.size (by assumption)) | (with_reducible exact Nat.le_trans (Below.size (by assumption)) (Below.size (by assumption))) | (refine Nat.le_trans (Below.size (by assumption)) ?_; go_size))))) (hB1.mono (by simp))) (fun _ => False)) (fun e => e); have hlt := hO1.lt; have hlt0 := hR1.lt
      have hB1' : Below w.heap.size w w1 := Below.trans (by (repeat' (first | (with_reducible exact Below.refl _ _) | (with_reducible assumption) | (with_reducible refine Below.alloc ?_ ?_ _) | (with_reducible refine Below.drew ?_) | (with_reducible refine below_drewN ?_ _) | (with_reducible refine Below.setCell ?_ ?_ _) | (with_reducible refine Below.trans ?_ (Below.mono (by assumption) ?_)) | (first | go_size | (with_reducible exact Below.size (by assumption)) | (with_reducible exact Nat.le_trans (Below.size (by assumption)) (Below.size (by assumption))) | (refine Nat.le_trans (Below.size (by assumption)) ?_; go_size))))) (hB1.mono (by simp; omega))
      clear hB1
      go_wp2_with (first | (refine wpList_load_row rfl 46 _ rfl (w.heap.size) rfl 46 ((rc8 B t bk y)).toArray (0, 0) _ ((hR1.keep ((Ch.refl (fun _ => False) _).alloc _) (fun e => e))) Try.underlying46 rfl (by kernel_rfl) ?_))
      refine (hdo A (fun b => G b ∧ b < w.heap.size) _ ((hr.mono (fun b hb hg => (⟨hg, hb⟩ : G b ∧ b < w.heap.size))).keep (Ch.of_below (show Below w.heap.size w _ by (repeat' (first | (with_reducible exact Below.refl _ _) | (with_reducible assumption) | (with_reducible refine Below.alloc ?_ ?_ _) | (with_reducible refine Below.drew ?_) | (with_reducible refine below_drewN ?_ _) | (with_reducible refine Below.setCell ?_ ?_ _) | (with_reducible refine Below.trans ?_ (Below.mono (by assumption) ?_)) | (first | go_size | (with_reducible exact Below.size (by assumption)) | (with_reducible exact Nat.le_trans (Below.size (by assumption)) (Below.size (by assumption))) | (refine Nat.le_trans (Below.size (by assumption)) ?_; go_size))))) (fun _ => False)) (fun _ _ _ e => e)) hA).mono ?_
      rintro e w2 ⟨A2, c2, rfl, hr2, hc2, hcm2, hA2, hB2⟩
      have hB2' : Below w1.heap.size w1 w2 := Below.trans (by (repeat' (first | (with_reducible exact Below.refl _ _) | (with_reducible assumption) | (with_reducible refine Below.alloc ?_ ?_ _) | (with_reducible refine Below.drew ?_) | (with_reducible refine below_drewN ?_ _) | (with_reducible refine Below.setCell ?_ ?_ _) | (with_reducible refine Below.trans ?_ (Below.mono (by assumption) ?_)) | (first | go_size | (with_reducible exact Below.size (by assumption)) | (with_reducible exact Nat.le_trans (Below.size (by assumption)) (Below.size (by assumption))) | (refine Nat.le_trans (Below.size (by assumption)) ?_; go_size))))) (hB2.mono (by simp))
      have hR2 := Blk.keep hR1 (Ch.of_below hB2' (fun _ => False)) (fun e => e)
      have hO2 := Blk.keep hO1 (Ch.of_below hB2' (fun _ => False)) (fun e => e)
      have hB3 : Below w.heap.size w w2 := hB1'.trans (hB2'.mono hB1'.size)
      have hz2 := hO2.lt
      have hz3 := hB2'.size
      clear hB2 hB2' hR1 hO1 hlt0
      go_wp2_with (first | (refine wpList_load_row rfl 46 _ rfl (w.heap.size) rfl 46 ((rc8 B t bk y)).toArray (0, 0) _ ((hR2.keep ((Ch.refl (fun _ => False) _).alloc _) (fun e => e))) Try.underlying46 rfl (by kernel_rfl) ?_))
      refine (haft _ _ _ _ _).mono ?_
      rintro e w3 ⟨rfl, hB4⟩
      have hB4' : Below w2.heap.size w2 w3 := Below.trans (by (repeat' (first | (with_reducible exact Below.refl _ _) | (with_reducible assumption) | (with_reducible refine Below.alloc ?_ ?_ _) | (with_reducible refine Below.drew ?_) | (with_reducible refine below_drewN ?_ _) | (with_reducible refine Below.setCell ?_ ?_ _) | (with_reducible refine Below.trans ?_ (Below.mono (by assumption) ?_)) | (first | go_size | (with_reducible exact Below.size (by assumption)) | (with_reducible exact Nat.le_trans (Below.size (by assumption)) (Below.size (by assumption))) | (refine Nat.le_trans (Below.size (by assumption)) ?_; go_size))))) (hB4.mono (by simp))
      have hO3 := Blk.keep hO2 (Ch.of_below hB4' (fun _ => False)) (fun e => e)
      have hB5 : Below w.heap.size w w3 := hB3.trans (hB4'.mono hB3.size)
      have hz4 := hO3.lt
      have hr3 := hr2.keep (Ch.of_below hB4' (fun _ => False)) (fun _ _ _ e => e)
      rw [HA.out]
      clear hR2 hO2 hB3 hB4 hz2 hr2 hdo haft hacc
      obtain ⟨y3, wt⟩ := y2
      dsimp only at HN ⊢
      have hn1 := Blk.new w3 46 z8
      have hN1 := rrow (w3.alloc (.cells z8.toArray 46)) w3.heap.size z8 (rc8 B t bk y3) hn1 rfl
      have hne : w.heap.size + 1 ≠ w3.heap.size := Nat.ne_of_lt hz4
      have hO4 : Blk ((w3.alloc (.cells z8.toArray 46)).setRow w3.heap.size (rc8 B t bk y3).toArray) (w.heap.size + 1) 46 z8 := (hO3.keep ((Ch.refl (fun _ => False) _).alloc _) (fun e => e)).keep hN1.2.2 hne
      have hN2 := rrow _ (w.heap.size + 1) z8 (rc8 B t bk y3) hO4 rfl
      obtain ⟨f0, f1, f2, f3, f4, f5, f6, f7⟩ := rc8_cells hN2.1
      go_wp2_with (first | (refine wpList_store_row rfl 46 _ _ rfl (w3.heap.size) _ rfl rfl 46 (z8).toArray (hn1) (by kernel_rfl) rfl (by simp [Value.oneCell']) ?_) | (refine wpList_load_row rfl 46 _ rfl (w3.heap.size) rfl 46 ((rc8 B t bk y3)).toArray (0, 0) _ (hN1.1) Try.underlying46 rfl (by kernel_rfl) ?_) | (refine wpList_store_row rfl 46 _ _ rfl ((w.heap.size + 1)) _ rfl rfl 46 (z8).toArray (hO4) (by kernel_rfl) rfl (by simp [Value.oneCell']) ?_))
      refine bodyPost_ret (v := .tuple #[rrun B t bk y3, .slice A2 n c2, .bool wt, .int .i64 0]) (by simp [results, go_sem, f0, f1, f2, f3, f4, f5, f6, f7]) rfl ?_
      rw [HN.out]
      have ca : Ch (fun j => j = w3.heap.size ∨ j = w.heap.size + 1) w3 ((w3.alloc (.cells z8.toArray 46)).setRow w3.heap.size (rc8 B t bk y3).toArray) := ((Ch.refl _ w3).alloc (.cells z8.toArray 46)).trans hN1.2.2 (fun j _ e => .inl e)
      have hch := ca.trans hN2.2.2 (fun j _ e => .inr e)
      refine ⟨A2, c2, rfl, ?_, hc2, hcm2, hA2, hB5.trans (hch.below (fun j hj e => by omega) hB5.size)⟩
      -- the words lie neither in the result nor in what was made since
      refine (hr3.keep hch (fun b hb hg hf => ?_)).mono (fun b _ hg => ?_)
      · simp only [World.size_alloc] at hg
        rcases hg with ⟨_, hg⟩ | hg
        · omega
        · omega
      · simp only [World.size_alloc] at hg
        rcases hg with ⟨hg, _⟩ | hg
        · exact .inl hg
        · exact .inr (by omega)
    · have HN : Hid (nxt bk B t y ws = ⟨y, ws, false, doE ws (accOf B t bk y).k (accOf B t bk y).i⟩) := (show _ = _ from by unfold nxt; rw [if_neg (by simpa using he), if_pos hd])
      generalize accOf B t bk y = a at *
      unfold AccP at hacc
      rw [he] at hacc
      obtain ⟨ak, ai, abf, aaf, ae⟩ := a
      dsimp only at hacc he hd HN haf
      have hdo := fun A' G' W hr' => rdo_n A' ws n c ak ai abf aaf G' W hr' HL.out hc hcm hn
      unfold RDoN at hdo
      have e1 : (doE ws ak ai != 0) = true := by simpa using hd
      have HD := Lib.hid hd
      clear he hd hend haft
      go_enter Try.func28, Try.ntmps28
      go_wp2_with fail
      refine (hacc _).mono ?_
      rintro e w1 ⟨rfl, hB1⟩
      have hR1 : Blk w1 w.heap.size 46 (rc8 B t bk y) := Blk.keep (Blk.new w _ _) (Ch.of_below (show Below _ (w.alloc _) w1 from Below.trans (by (repeat' (first | (with_reducible exact Below.refl _ _) | (with_reducible assumption) | (with_reducible refine Below.alloc ?_ ?_ _) | (with_reducible refine Below.drew ?_) | (with_reducible refine below_drewN ?_ _) | (with_reducible refine Below.setCell ?_ ?_ _) | (with_reducible refine Below.trans ?_ (Below.mono (by assumption) ?_)) | (first | go_size | (with_reducible exact Below.size (by assumption)) | (with_reducible exact Nat.le_trans (Below.size (by assumption)) (Below.size (by assumption))) | (refine Nat.le_trans (Below.size (by assumption)) ?_; go_size))))) (hB1.mono (by simp))) (fun _ => False)) (fun e => e); have hO1 : Blk w1 (w.heap.size + 1) 46 z8 := Blk.keep (show Blk ((w.alloc _).alloc _) (w.heap.size + 1) _ z8 from by have := Blk.new (w.alloc (.cells (rc8 B t bk y).toArray 46)) 46 z8; rwa [World.size_alloc] at this) (Ch.of_below (show Below _ ((w.alloc _).alloc _) w1 from Below.trans (by (repeat' (first | (with_reducible exact Below.refl _ _) | (with_reducible assumption) | (with_reducible refine Below.alloc ?_ ?_ _) | (with_reducible refine Below.drew ?_) | (with_reducible refine below_drewN ?_ _) | (with_reducible refine Below.setCell ?_ ?_ _) | (with_reducible refine Below.trans ?_ (Below.mono (by assumption) ?_)) | (first | go_size | (with_reducible exact Below.size (by assumption)) | (with_reducible exact Nat.le_trans (Below.size (by assumption)) (Below.size (by assumption))) | (refine Nat.le_trans (Below.size (by assumption)) ?_; go_size))))) (hB1.mono (by simp))) (fun _ => False)) (fun e => e); have hlt := hO1.lt; have hlt0 := hR1.lt
      have hB1' : Below w.heap.size w w1 := Below.trans (by (repeat' (first | (with_reducible exact Below.refl _ _) | (with_reducible assumption) | (with_reducible refine Below.alloc ?_ ?_ _) | (with_reducible refine Below.drew ?_) | (with_reducible refine below_drewN ?_ _) | (with_reducible refine Below.setCell ?_ ?_ _) | (with_reducible refine Below.trans ?_ (Below.mono (by assumption) ?_)) | (first | go_size | (with_reducible exact Below.size (by assumption)) | (with_reducible exact Nat.le_trans (Below.size (by assumption)) (Below.size (by assumption))) | (refine Nat.le_trans (Below.size (by assumption)) ?_; go_size))))) (hB1.mono (by simp; omega))
      clear hB1
      go_wp2_with (first | (refine wpList_load_row rfl 46 _ rfl (w.heap.size) rfl 46 ((rc8 B t bk y)).toArray (0, 0) _ ((hR1.keep ((Ch.refl (fun _ => False) _).alloc _) (fun e => e))) Try.underlying46 rfl (by kernel_rfl) ?_))
      refine (hdo A G _ (hr.keep (Ch.of_below (show Below w.heap.size w _ by (repeat' (first | (with_reducible exact Below.refl _ _) | (with_reducible assumption) | (with_reducible refine Below.alloc ?_ ?_ _) | (with_reducible refine Below.drew ?_) | (with_reducible refine below_drewN ?_ _) | (with_reducible refine Below.setCell ?_ ?_ _) | (with_reducible refine Below.trans ?_ (Below.mono (by assumption) ?_)) | (first | go_size | (with_reducible exact Below.size (by assumption)) | (with_reducible exact Nat.le_trans (Below.size (by assumption)) (Below.size (by assumption))) | (refine Nat.le_trans (Below.size (by assumption)) ?_; go_size))))) (fun _ => False)) (fun _ _ _ e => e)) hA).mono ?_
      rintro e w2 ⟨A2, c2, rfl, _, hc2, hcm2, hA2, hB2⟩
      have hB2' : Below w1.heap.size w1 w2 := Below.trans (by (repeat' (first | (with_reducible exact Below.refl _ _) | (with_reducible assumption) | (with_reducible refine Below.alloc ?_ ?_ _) | (with_reducible refine Below.drew ?_) | (with_reducible refine below_drewN ?_ _) | (with_reducible refine Below.setCell ?_ ?_ _) | (with_reducible refine Below.trans ?_ (Below.mono (by assumption) ?_)) | (first | go_size | (with_reducible exact Below.size (by assumption)) | (with_reducible exact Nat.le_trans (Below.size (by assumption)) (Below.size (by assumption))) | (refine Nat.le_trans (Below.size (by assumption)) ?_; go_size))))) (hB2.mono (by simp))
      have hR2 := Blk.keep hR1 (Ch.of_below hB2' (fun _ => False)) (fun e => e)
      have hO2 := Blk.keep hO1 (Ch.of_below hB2' (fun _ => False)) (fun e => e)
      have hB3 : Below w.heap.size w w2 := hB1'.trans (hB2'.mono hB1'.size)
      have hz2 := hO2.lt
      have hz3 := hB2'.size
      clear hB2 hB2' hR1 hO1 hlt hlt0
      obtain ⟨X, hX⟩ : ∃ X, X = w2.alloc (.cells #[.int .i64 (doK ws ak ai), .int .i64 (doI ws ak ai), .int .u64 (doB ws ak ai), .int .u64 (doA ws ak ai abf aaf)] 97) := ⟨_, rfl⟩
      have hXc : Ch (fun _ => False) w2 X := by rw [hX]; exact (Ch.refl _ _).alloc _
      have hR3 := hR2.keep hXc (fun e => e)
      have hO3 := hO2.keep hXc (fun e => e)
      have hN2 := rrow X (w.heap.size + 1) z8 (rc8 B t bk y) hO3 rfl
      rw [hX] at hR3 hO3 hN2
      obtain ⟨f0, f1, f2, f3, f4, f5, f6, f7⟩ := rc8_cells hN2.1
      clear hX hXc
      go_wp2_with (first | (refine wpList_load_row rfl 46 _ rfl (w.heap.size) rfl 46 ((rc8 B t bk y)).toArray (0, 0) _ (hR3) Try.underlying46 rfl (by kernel_rfl) ?_) | (refine wpList_store_row rfl 46 _ _ rfl ((w.heap.size + 1)) _ rfl rfl 46 (z8).toArray (hO3) (by kernel_rfl) rfl (by simp [Value.oneCell']) ?_))
      refine bodyPost_ret (v := .tuple #[rrun B t bk y, .slice A n c, .bool false, .int .i64 (doE ws ak ai)]) (by simp [results, go_sem, f0, f1, f2, f3, f4, f5, f6, f7]) rfl ?_
      rw [HN.out]
      have hch := ((Ch.of_below hB3 (fun _ => False)).alloc _).trans hN2.2.2 (fun j hj e => by omega)
      exact ⟨A, c, rfl, (hr.keep hch (fun _ _ _ e => e)).mono (fun _ _ h => .inl h), hc, hcm, hA, hch.below (fun _ _ e => False.elim e) (Nat.le_refl _)⟩
  · have HN : Hid (nxt bk B t y ws = ⟨y, ws, false, (accOf B t bk y).e⟩) := (show _ = _ from by unfold nxt; rw [if_pos he])
    generalize accOf B t bk y = a at *
    have e1 : (a.e != 0) = true := by simpa using he
    clear he
    go_enter Try.func28, Try.ntmps28
    go_wp2_with fail
    refine (hacc _).mono ?_
    rintro e w1 ⟨rfl, hB1⟩
    have hR1 : Blk w1 w.heap.size 46 (rc8 B t bk y) := Blk.keep (Blk.new w _ _) (Ch.of_below (show Below _ (w.alloc _) w1 from Below.trans (by (repeat' (first | (with_reducible exact Below.refl _ _) | (with_reducible assumption) | (with_reducible refine Below.alloc ?_ ?_ _) | (with_reducible refine Below.drew ?_) | (with_reducible refine below_drewN ?_ _) | (with_reducible refine Below.setCell ?_ ?_ _) | (with_reducible refine Below.trans ?_ (Below.mono (by assumption) ?_)) | (first | go_size | (with_reducible exact Below.size (by assumption)) | (with_reducible exact Nat.le_trans (Below.size (by assumption)) (Below.size (by assumption))) | (refine Nat.le_trans (Below.size (by assumption)) ?_; go_size))))) (hB1.mono (by simp))) (fun _ => False)) (fun e => e); have hO1 : Blk w1 (w.heap.size + 1) 46 z8 := Blk.keep (show Blk ((w.alloc _).alloc _) (w.heap.size + 1) _ z8 from by have := Blk.new (w.alloc (.cells (rc8 B t bk y).toArray 46)) 46 z8; rwa [World.size_alloc] at this) (Ch.of_below (show Below _ ((w.alloc _).alloc _) w1 from Below.trans (by (repeat' (first | (with_reducible exact Below.refl _ _) | (with_reducible assumption) | (with_reducible refine Below.alloc ?_ ?_ _) | (with_reducible refine Below.drew ?_) | (with_reducible refine below_drewN ?_ _) | (with_reducible refine Below.setCell ?_ ?_ _) | (with_reducible refine Below.trans ?_ (Below.mono (by assumption) ?_)) | (first | go_size | (with_reducible exact Below.size (by assumption)) | (with_reducible exact Nat.le_trans (Below.size (by assumption)) (Below.size (by assumption))) | (refine Nat.le_trans (Below.size (by assumption)) ?_; go_size))))) (hB1.mono (by simp))) (fun _ => False)) (fun e => e); have hlt := hO1.lt; have hlt0 := hR1.lt
    have hB1' : Below w.heap.size w w1 := Below.trans (by (repeat' (first | (with_reducible exact Below.refl _ _) | (with_reducible assumption) | (with_reducible refine Below.alloc ?_ ?_ _) | (with_reducible refine Below.drew ?_) | (with_reducible refine below_drewN ?_ _) | (with_reducible refine Below.setCell ?_ ?_ _) | (with_reducible refine Below.trans ?_ (Below.mono (by assumption) ?_)) | (first | go_size | (with_reducible exact Below.size (by assumption)) | (with_reducible exact Nat.le_trans (Below.size (by assumption)) (Below.size (by assumption))) | (refine Nat.le_trans (Below.size (by assumption)) ?_; go_size))))) (hB1.mono (by simp; omega))
    have hfin := rrow (w1.alloc (.cells #[.int .i64 a.k, .int .i64 a.i, .int .u64 a.bf, .int .u64 a.af] 97)) (w.heap.size + 1) z8 (rc8 B t bk y) (hO1.keep ((Ch.refl (fun _ => False) _).alloc _) (fun e => e)) rfl
    obtain ⟨hf1, _, hf3⟩ := hfin
    obtain ⟨f0, f1, f2, f3, f4, f5, f6, f7⟩ := rc8_cells hf1
    go_wp2_with (first | (refine wpList_load_row rfl 46 _ rfl (w.heap.size) rfl 46 ((rc8 B t bk y)).toArray (0, 0) _ ((hR1.keep ((Ch.refl (fun _ => False) _).alloc _) (fun e => e))) Try.underlying46 rfl (by kernel_rfl) ?_) | (refine wpList_store_row rfl 46 _ _ rfl ((w.heap.size + 1)) _ rfl rfl 46 (z8).toArray ((hO1.keep ((Ch.refl (fun _ => False) _).alloc _) (fun e => e))) (by kernel_rfl) rfl (by simp [Value.oneCell']) ?_))
    refine bodyPost_ret (v := .tuple #[rrun B t bk y, .slice A n c, .bool false, .int .i64 a.e]) (by simp [results, go_sem, f0, f1, f2, f3, f4, f5, f6, f7]) rfl ?_
    rw [HN.out]
    have hch := (Ch.of_below (show Below w.heap.size w (w1.alloc (.cells #[.int .i64 a.k, .int .i64 a.i, .int .u64 a.bf, .int .u64 a.af] 97)) by (repeat' (first | (with_reducible exact Below.refl _ _) | (with_reducible assumption) | (with_reducible refine Below.alloc ?_ ?_ _) | (with_reducible refine Below.drew ?_) | (with_reducible refine below_drewN ?_ _) | (with_reducible refine Below.setCell ?_ ?_ _) | (with_reducible refine Below.trans ?_ (Below.mono (by assumption) ?_)) | (first | go_size | (with_reducible exact Below.size (by assumption)) | (with_reducible exact Nat.le_trans (Below.size (by assumption)) (Below.size (by assumption))) | (refine Nat.le_trans (Below.size (by assumption)) ?_; go_size))))) (fun _ => False)).trans hf3 (fun j hj e => by omega)
    exact ⟨A, c, rfl, (hr.keep hch (fun _ _ _ e => e)).mono (fun _ _ h => .inl h), hc, hcm, hA, hch.below (fun _ _ e => False.elim e) (Nat.le_refl _)⟩
end Go.Proofs.Ytmlhdcpahfgckaa
