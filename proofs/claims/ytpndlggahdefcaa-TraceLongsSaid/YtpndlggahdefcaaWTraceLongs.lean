/-
  The walk of TraceLongs: it returns true for every two numbers.
-/
import Derived.Test.YtpndlggahdefcaaWTraceLooks
import Derived.Test.YtpndlggahdefcaaTrLong
namespace Go.Proofs.Ytpndlggahdefcaa
open Go.RowKit
set_option linter.unusedSimpArgs false
set_option linter.unusedVariables false
namespace TraceLongs

theorem make_did (n : Nat) (hn : n ≤ 1000000) (w : World) : ∃ cs : List Value, cs.length = n * 7 ∧
    (Instr.makeSlice 42 (.int .i64 (n : Int)) (.int .i64 (n : Int))).run Try.prog w = .ok (.slice (some ⟨w.heap.size, 0, none⟩) n n) (w.alloc (.cells cs.toArray 47)) := by
  obtain ⟨i0, hi0, hz0, hz1, hz2⟩ := info_parts ddInfo
  have hr := run_make (P := Try.prog) w 42 47 i0 _ Try.underlying42 hi0 hz0 .i64 .i64 n n (by omega) (by omega) (by rw [hz2]; omega) (by omega)
  refine ⟨(madeCells (Dd.mk 0 0 0 0 0 false false).val.cells (n * i0.size)).toList, ?_, ?_⟩
  · rw [hz1]
    simp [madeCells]
  · simp only [Int.toNat_natCast] at hr
    rw [Array.toArray_toList]
    exact hr
/-- k of the things are written -/
structure LSt (W : World) (g n k : Nat) (wr : World) : Prop where
  blk : ∃ cs : List Value, cs.length = n * 7 ∧ Blk wr g 47 cs
  rng : ∀ q, q < k → wr.rangeAt g (q * 7) (pt q).cells
  ch : Ch (fun j => j = g) W wr
theorem LSt.step {W wr : World} {g n k : Nat} (h : LSt W g n k wr) (hk : k < n) : wr.there g (k * 7) 7 ∧ LSt W g n (k + 1) (wr.setCells g (k * 7) (pt k).cells) := by
  obtain ⟨cs, h1, h2⟩ := h.blk
  have hth : wr.there g (k * 7) (pt k).cells.length := there_blk h2 _ _ (by show k * 7 + 7 ≤ _; omega)
  obtain ⟨cs', h3, h4⟩ := blk_setCells (pt k).cells (k * 7) wr cs h2
  refine ⟨hth, ⟨cs', by rw [h3, h1], h4⟩, fun q hq => ?_, h.ch.trans (setCells_ch g _ _ _) (fun _ _ e => e)⟩
  by_cases e : q = k
  · subst e
    exact World.rangeAt_setCells_same wr g _ _ hth
  · refine World.rangeAt_setCells_apart (h.rng q (by omega)) g _ _ (.inr ?_)
    show q * 7 + 7 ≤ k * 7 ∨ k * 7 + 7 ≤ q * 7
    omega
theorem LSt.rd {W wr : World} {g n : Nat} (h : LSt W g n n wr) : Rd (fun _ => True) wr (some ⟨g, 0, none⟩) (dds (ptL n)) := by
  intro _
  obtain ⟨cs, h1, h2⟩ := h.blk
  refine ⟨g, 0, rfl, trivial, h2.lt, fun j v hv => ?_⟩
  have hj : j < n * 7 := by
    have := (List.getElem?_eq_some_iff.1 hv).1
    rw [dds_len, ptL_len] at this
    exact this
  have hq : j / 7 < n := by omega
  have h5 := dds_at (ptL_at hq) (Nat.mod_lt j (by omega : 0 < 7))
  rw [show j / 7 * 7 + j % 7 = j by omega, hv] at h5
  have h6 := h.rng (j / 7) hq (j % 7) v h5.symm
  rw [show j / 7 * 7 + j % 7 = j by omega] at h6
  rw [Nat.zero_add]
  exact h6
/-- the two lists made -/
structure Ps (w : World) (M N : Nat) (A B : Addr) (wr : World) : Prop where
  below : Below w.heap.size w wr
  rw : Rd (fun _ => True) wr (some B) (u64s (List.replicate N 0))
  rl : Rd (fun _ => True) wr (some A) (dds (ptL M))
  hM : 99998 ≤ M ∧ M ≤ 100002
  hN : 65534 ≤ N ∧ N ≤ 65538
theorem Ps.next {w wr w' : World} {M N : Nat} {A B : Addr} (h : Ps w M N A B wr) (hb : Below wr.heap.size wr w') : Ps w M N A B w' :=
  ⟨h.below.trans (hb.mono h.below.size), h.rw.keep (Ch.of_below hb (fun _ => False)) (fun _ _ _ e => e), h.rl.keep (Ch.of_below hb (fun _ => False)) (fun _ _ _ e => e), h.hM, h.hN⟩
def PPost (w : World) (M N : Nat) (A B : Addr) (e : Ending) (w' : World) : Prop := e = .returned (.bool true) ∧ Ps w M N A B w'
theorem Ps.post {w wr : World} {M N : Nat} {A B : Addr} (h : Ps w M N A B wr) {f : FuncId} {args : Array Value} {b : Bool} (hb : b = true) (hc : Calls Try.prog f args wr fun e w' => e = .returned (.bool b) ∧ Below wr.heap.size wr w') : Calls Try.prog f args wr (PPost w M N A B) :=
  hc.mono fun _ _ ⟨e1, e2⟩ => ⟨by rw [e1, hb], h.next e2⟩
theorem Ps.known {w wr : World} {M N : Nat} {A B : Addr} (h : Ps w M N A B wr) : Calls Try.prog 8 #[] wr (PPost w M N A B) := h.post rfl (known_ok wr)
theorem Ps.wf0 (N : Nat) : ∀ x ∈ List.replicate N (0 : Int), 0 ≤ x ∧ x ≤ 18446744073709551615 := by
  intro x hx
  rw [(List.mem_replicate.1 hx).2]
  omega
theorem Ps.checks {w wr : World} {M N : Nat} {A B : Addr} (h : Ps w M N A B wr) {want no : Int} (hv : ckV (List.replicate N 0) (ptL M) = (want, no)) :
    Calls Try.prog 19 #[.slice (some B) N N, .slice (some A) M M, .int .i64 want, .int .i64 no] wr (PPost w M N A B) :=
  h.post (decide_eq_true hv) (lchecks_ok (some B) (some A) (List.replicate N 0) (ptL M) N N M M want no wr (h.rw.mono (fun b hb _ => hb)) (by simp) (by have := h.hN; omega) (Nat.le_refl _) (Ps.wf0 N) (h.rl.mono (fun b hb _ => hb)) (ptL_len M) (by have := h.hM; omega) (ptL_wf M))
theorem Ps.replays {w wr : World} {M N : Nat} {A B : Addr} (h : Ps w M N A B wr) {no : Int} (hv : ryV (List.replicate N 0) (ptL M) = ([], no)) :
    Calls Try.prog 20 #[.slice (some B) N N, .slice (some A) M M, .slice none 0 0, .int .i64 no] wr (PPost w M N A B) :=
  h.post (decide_eq_true hv) (lreplays_ok (some B) (some A) none (List.replicate N 0) [] (ptL M) N N M M 0 0 no wr (h.rw.mono (fun b hb _ => hb)) (by simp) (by have := h.hN; omega) (Nat.le_refl _) (Ps.wf0 N) (h.rl.mono (fun b hb _ => hb)) (ptL_len M) (by have := h.hM; omega) (ptL_wf M) rd_none rfl (by omega) (by omega))
theorem Ps.waits {w wr : World} {M N : Nat} {A B : Addr} (h : Ps w M N A B wr) {A2 : Option Addr} {want : List Wt} {n2 c2 : Nat} {no : Int} (hv : wtV (ptL M) = (want, no)) (h3 : Rd (fun _ => True) wr A2 (wts want)) (h4 : want.length = n2) (h5 : n2 ≤ 60) (h6 : n2 ≤ c2) :
    Calls Try.prog 25 #[.slice (some A) M M, .int .i64 no, .slice A2 n2 c2] wr (PPost w M N A B) :=
  h.post (decide_eq_true hv) (lwaits_ok (some A) A2 want (ptL M) M M n2 c2 no wr (h.rl.mono (fun b hb _ => hb)) (ptL_len M) (by have := h.hM; omega) h3 h4 (by omega) h6)
theorem Ps.changes {w wr : World} {M N : Nat} {A B : Addr} (h : Ps w M N A B wr) {no : Int} (hv : chV (ptL M) 0 = ([], no)) :
    Calls Try.prog 26 #[.slice (some A) M M, .int .i64 0, .int .i64 no, .slice none 0 0] wr (PPost w M N A B) :=
  h.post (decide_eq_true hv) (lchanges_ok (some A) none [] (ptL M) 0 M M 0 0 no wr (h.rl.mono (fun b hb _ => hb)) (ptL_len M) (by have := h.hM; omega) rd_none rfl (by omega) (by omega))
theorem Ps.of {w wr : World} {M N : Nat} {A B : Addr} (h : Ps w M N A B wr) {no : Int} (hv : ofV (ptL M) 0 = ([], no)) :
    Calls Try.prog 27 #[.slice (some A) M M, .int .i64 0, .int .i64 no, .slice none 0 0] wr (PPost w M N A B) :=
  h.post (decide_eq_true hv) (lof_ok (some A) none [] (ptL M) 0 M M 0 0 no wr (h.rl.mono (fun b hb _ => hb)) (ptL_len M) (by have := h.hM; omega) (fun e => nomatch e) rd_none rfl (by omega) (by omega))
theorem Ps.valid {w wr : World} {M N : Nat} {A B : Addr} (h : Ps w M N A B wr) : Calls Try.prog 18 #[.slice (some A) M M] wr fun e w' => e = .returned (.bool (validB (ptL M))) ∧ Ps w M N A B w' :=
  (valid_ok (some A) (ptL M) M M wr h.rl (ptL_len M) (by have := h.hM; omega)).mono fun _ _ ⟨e1, e2⟩ => ⟨e1, h.next e2⟩
set_option maxRecDepth 100000 in
set_option maxHeartbeats 4000000 in
theorem walk (m : Int) (_wm : (Lit.int .i64 m).wf = true) (n : Int) (_wn : (Lit.int .i64 n).wf = true) (w : World) :
    Calls Try.prog 7 #[.int .i64 m, .int .i64 n] w fun e w' => e = .returned (.bool true) ∧ Below w.heap.size w w' := by
  clear _wm _wn
  by_cases hbad : m < 99998 ∨ 100002 < m ∨ n < 65534 ∨ 65538 < n
  · have hk := known_ok w
    obtain ⟨BAD, hBAD⟩ : ∃ BAD : Bool, BAD = true := ⟨_, rfl⟩
    go_enter Try.func7, Try.ntmps7
    go_upto_region 1 with fail
    go_cut [21] (fun s21 wx => s21 = .bool true ∧ w = wx)
    case first =>
      by_cases h1 : m < 99998
      · have d1 : decide (m < 99998) = true := decide_eq_true h1
        clear hbad hk
        go_wp2_with fail
        go_meet
        exact ⟨rfl, rfl⟩
      · have d1 : decide (m < 99998) = false := decide_eq_false h1
        by_cases h2 : 100002 < m
        · have d2 : decide (m > 100002) = true := decide_eq_true h2
          clear hbad hk
          go_wp2_with fail
          go_meet
          exact ⟨rfl, rfl⟩
        · have d2 : decide (m > 100002) = false := decide_eq_false h2
          by_cases h3 : n < 65534
          · have d3 : decide (n < 65534) = true := decide_eq_true h3
            clear hbad hk
            go_wp2_with fail
            go_meet
            exact ⟨rfl, rfl⟩
          · have d3 : decide (n < 65534) = false := decide_eq_false h3
            have d4 : decide (n > 65538) = true := decide_eq_true (by omega)
            clear hbad hk
            go_wp2_with fail
            go_meet
            exact ⟨rfl, rfl⟩
    case rest =>
      obtain ⟨rfl, rfl⟩ := hcut
      go_wp2_with fail
      refine hk.mono ?_
      rintro e w1 ⟨rfl, hb⟩
      go_wp2_with fail
      go_ret
      exact ⟨rfl, hb⟩
  · have d1 : decide (m < 99998) = false := decide_eq_false (by omega)
    have d2 : decide (m > 100002) = false := decide_eq_false (by omega)
    have d3 : decide (n < 65534) = false := decide_eq_false (by omega)
    have d4 : decide (n > 65538) = false := decide_eq_false (by omega)
    obtain ⟨M, rfl⟩ : ∃ M : Nat, m = M := ⟨m.toNat, by omega⟩
    obtain ⟨N, rfl⟩ : ∃ N : Nat, n = N := ⟨n.toNat, by omega⟩
    have hM : 99998 ≤ M ∧ M ≤ 100002 := by omega
    have hN : 65534 ≤ N ∧ N ≤ 65538 := by omega
    obtain ⟨cs, hcs, hmk⟩ := make_did M (by omega) w
    clear hbad
    go_enter Try.func7, Try.ntmps7
    go_upto_region 4 with fail
    have hL0 : LSt w w.heap.size M 0 (w.alloc (.cells cs.toArray 47)) := ⟨⟨cs, hcs, Blk.new w _ cs⟩, fun q hq => (by omega), (Ch.refl _ w).alloc _⟩
    generalize w.alloc (.cells cs.toArray 47) = w1 at *
    clear hmk hcs d1 d2 d3 d4
    go_wp2_with fail
    go_loopw [27] (fun v wr => ∃ k : Nat, k ≤ M ∧ v = .int .i64 k ∧ LSt w w.heap.size M k wr) (fun v _ => M - (intOf v).toNat)
    case atStart => exact ⟨0, Nat.zero_le _, rfl, hL0⟩
    case round =>
      clear hL0
      obtain ⟨k, hk, rfl, hL⟩ := hrel
      by_cases hlt : k < M
      · obtain ⟨hth, hL2⟩ := hL.step hlt
        have HTH := Lib.hid hth
        have HL2 := Lib.hid hL2
        have i1 : (0 : Int) ≤ k := Int.natCast_nonneg _
        have i2 : (k : Int) < (M : Int) := by omega
        clear hth hL2 hL
        go_wp2_with (refine wl_storeD 47 _ _ w.heap.size (k * 7) (pt k).cells.toArray ?_ ?_ ?_ ?_ ?_ ?_; (focus rfl); (focus rfl); (focus (exact HTH.out)); (focus kernel_rfl); (focus (simp [pt, Dd.cells, Value.oneCell'])))
        refine ⟨⟨k + 1, by omega, by go_num, HL2.out⟩, ?_⟩
        simp [intOf]
        omega
      · obtain rfl : M = k := by omega
        have hrl := hL.rd
        have hbL : Below w.heap.size w wr := hL.ch.below (fun j hj e => by omega) (Nat.le_refl _)
        have hmk2 := make_u64 N (by omega)
        have hP0 : Ps w M N ⟨w.heap.size, 0, none⟩ ⟨wr.heap.size, 0, none⟩ (wr.alloc (.cells (u64s (List.replicate N 0)).toArray 30)) := ⟨hbL.alloc hbL.size _, Rd.of_blk (Blk.new wr 30 (u64s (List.replicate N 0))) (List.prefix_refl _) trivial, hrl.keep ((Ch.refl (fun _ => False) wr).alloc _) (fun _ _ _ e => e), hM, hN⟩
        clear hL hbL hrl
        by_cases c1 : 100000 < M
        · obtain ⟨k1, k2, k3, k4, k5, k6⟩ := long_ck M N c1
          have K1 := Lib.hid k1
          have K2 := Lib.hid k2
          have K3 := Lib.hid k3
          have K4 := Lib.hid k4
          have K5 := Lib.hid k5
          have hv := hP0.valid
          rw [k6] at hv
          have d1 : decide ((M : Int) > 100000) = true := decide_eq_true (by omega)
          clear k1 k2 k3 k4 k5 k6 c1
          go_wp2_with fail
          refine hv.mono ?_
          rintro e w4 ⟨rfl, hP4⟩
          clear hv hP0
          have hc := hP4.waits (n2 := 0) (c2 := 0) K3.out rd_none rfl (by omega) (by omega)
          clear hP4
          go_wp2_with fail
          refine hc.mono ?_
          rintro e w5 ⟨rfl, hP5⟩
          clear hc
          have hc := hP5.changes K4.out
          clear hP5
          go_wp2_with fail
          refine hc.mono ?_
          rintro e w6 ⟨rfl, hP6⟩
          clear hc
          have hc := hP6.of K5.out
          clear hP6
          go_wp2_with fail
          refine hc.mono ?_
          rintro e w7 ⟨rfl, hP7⟩
          clear hc
          have hc := hP7.checks K1.out
          clear hP7
          go_wp2_with fail
          refine hc.mono ?_
          rintro e w8 ⟨rfl, hP8⟩
          clear hc
          have hc := hP8.replays K2.out
          clear hP8
          go_wp2_with fail
          refine hc.mono ?_
          rintro e w9 ⟨rfl, hP9⟩
          clear hc
          have hc := hP9.known
          clear hP9
          go_wp2_with fail
          refine hc.mono ?_
          rintro e w10 ⟨rfl, hP10⟩
          clear hc
          have hbf := hP10.below
          clear hP10
          go_wp2_with fail
          go_ret
          exact ⟨rfl, hbf⟩
        · have d1 : decide ((M : Int) > 100000) = false := decide_eq_false (by omega)
          by_cases c2 : 65536 < N
          · obtain ⟨k1, k2⟩ := long_arg M N c1 c2
            have K1 := Lib.hid k1
            have K2 := Lib.hid k2
            have d2 : decide ((N : Int) > 65536) = true := decide_eq_true (by omega)
            clear k1 k2 c1 c2
            have hc := hP0.checks K1.out
            clear hP0
            go_wp2_with fail
            refine hc.mono ?_
            rintro e w1 ⟨rfl, hP1⟩
            clear hc
            have hc := hP1.replays K2.out
            clear hP1
            go_wp2_with fail
            refine hc.mono ?_
            rintro e w2 ⟨rfl, hP2⟩
            clear hc
            have hc := hP2.known
            clear hP2
            go_wp2_with fail
            refine hc.mono ?_
            rintro e w3 ⟨rfl, hP3⟩
            clear hc
            have hbf := hP3.below
            clear hP3
            go_wp2_with fail
            go_ret
            exact ⟨rfl, hbf⟩
          · obtain ⟨k1, k2, k3⟩ := long_ok M N c1 (by omega) c2 (by omega)
            have K1 := Lib.hid k1
            have K2 := Lib.hid k2
            have d2 : decide ((N : Int) > 65536) = false := decide_eq_false (by omega)
            have hv := hP0.valid
            rw [k3] at hv
            clear k1 k2 k3 c1 c2
            go_wp2_with fail
            refine hv.mono ?_
            rintro e w4 ⟨rfl, hP4⟩
            clear hv hP0
            have hc := hP4.checks K1.out
            clear hP4
            go_wp2_with fail
            refine hc.mono ?_
            rintro e w5 ⟨rfl, hP5⟩
            clear hc
            have hP6 : Ps w M N ⟨w.heap.size, 0, none⟩ ⟨wr.heap.size, 0, none⟩ (w5.alloc (.cells (wts [⟨0, 0, 0, -1, -1⟩, ⟨1, 1, 1, -1, -1⟩]).toArray 60)) := hP5.next ((Below.refl _ _).alloc (Nat.le_refl _) _)
            have hc := hP6.waits (n2 := 2) (c2 := 2) K2.out (Rd.of_blk (Blk.new w5 60 (wts [⟨0, 0, 0, -1, -1⟩, ⟨1, 1, 1, -1, -1⟩])) (List.prefix_refl _) trivial) rfl (by omega) (by omega)
            clear hP5 hP6
            go_wp2_with fail
            refine hc.mono ?_
            rintro e w7 ⟨rfl, hP7⟩
            clear hc
            have hc := hP7.known
            clear hP7
            go_wp2_with fail
            refine hc.mono ?_
            rintro e w8 ⟨rfl, hP8⟩
            clear hc
            have hbf := hP8.below
            clear hP8
            go_wp2_with fail
            go_ret
            exact ⟨rfl, hbf⟩
end TraceLongs
end Go.Proofs.Ytpndlggahdefcaa
