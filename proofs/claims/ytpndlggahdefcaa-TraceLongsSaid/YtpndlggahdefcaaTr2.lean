/-
  Contracts of package trace, second part: changes, Valid, wrong.
-/
import Derived.Test.YtpndlggahdefcaaTr
namespace Go.Proofs.Ytpndlggahdefcaa
open Go.RowKit
set_option linter.unusedSimpArgs false
set_option linter.unusedVariables false

theorem changes_ok (d : Dd) (x : Int) (w : World) : Calls Try.prog 51 #[d.val, .int .i64 x] w fun e w' => e = .returned (.bool (chB d x)) ∧ Below w.heap.size w w' := by
  have HP := Lib.hid (show chB d x = true ↔ (d.k ≠ 0 ∧ d.w = x ∧ d.b ≠ d.a) from by unfold chB; exact decide_eq_true_iff)
  generalize chB d x = B at *
  obtain ⟨t, k, y, b, a, wt, en⟩ := d
  simp only [Dd.val, Dd.cells]
  have hP := HP.out
  simp only at hP
  have HP2 := Lib.hid hP
  clear hP HP
  go_enter Try.func51, Try.ntmps51
  go_wp2_with fail
  all_goals
    go_ret
    refine ⟨ret_bool ?_, by (repeat' (first | (with_reducible exact Below.refl _ _) | (with_reducible assumption) | (with_reducible refine Below.alloc ?_ ?_ _) | (with_reducible refine Below.drew ?_) | (with_reducible refine below_drewN ?_ _) | (with_reducible refine Below.setCell ?_ ?_ _) | (with_reducible refine Below.trans ?_ (Below.mono (by assumption) ?_)) | (first | go_size | (with_reducible exact Below.size (by assumption)) | (with_reducible exact Nat.le_trans (Below.size (by assumption)) (Below.size (by assumption))) | (refine Nat.le_trans (Below.size (by assumption)) ?_; go_size))))⟩
    have hP := HP2.out
    cases B
    all_goals
      simp only [Bool.false_eq_true, true_iff, false_iff] at hP
      first | rfl | (exfalso; omega) | (simp; omega) | (exfalso; simp only [beq_iff_eq, bne_iff_ne, beq_eq_false_iff_ne, bne_eq_false_iff_eq, ne_eq, Decidable.not_not] at *; omega) | (simp only [beq_iff_eq, bne_iff_ne, beq_eq_false_iff_ne, bne_eq_false_iff_eq, ne_eq, Decidable.not_not] at *; simp; omega)
/-- which threads have ended -/
def endV (f : Nat → Bool) : List Value := (List.range 64).map fun i => Value.bool (f i)
theorem endV_len (f : Nat → Bool) : (endV f).length = 64 := by simp [endV]
theorem endV_get (f : Nat → Bool) {i : Nat} (h : i < 64) : (endV f)[i]? = some (.bool (f i)) := by
  unfold endV
  rw [List.getElem?_map, List.getElem?_range h, Option.map_some]
theorem endV_set (f : Nat → Bool) (k : Nat) (v : Bool) : (endV f).set k (.bool v) = endV (fun i => if i = k then v else f i) := by
  apply List.ext_getElem?
  intro i
  by_cases hi : i < 64
  · rw [List.getElem?_set, endV_len, endV_get _ hi, endV_get _ hi]
    by_cases e : k = i
    · subst e; rw [if_pos rfl, if_pos hi, if_pos rfl]
    · rw [if_neg e, if_neg (fun h => e h.symm)]
  · rw [List.getElem?_eq_none (by rw [List.length_set, endV_len]; omega), List.getElem?_eq_none (by rw [endV_len]; omega)]
theorem endV_congr {f g : Nat → Bool} (h : ∀ i, i < 64 → f i = g i) : endV f = endV g := by
  unfold endV
  exact List.map_congr_left fun i hi => by rw [h i (List.mem_range.1 hi)]
theorem zeroE : (Try.prog.info? 110).map (fun i => (i.zero, i.size)) = some (some (.agg (endV (fun _ => false)).toArray), 64) := by kernel_rfl
set_option maxHeartbeats 2000000 in
theorem valid_ok (A : Option Addr) (l : List Dd) (m c : Nat) (w : World) {G : Nat → Prop} (hr : Rd G w A (dds l)) (hl : l.length = m) (hm : m ≤ 9223372036854775806) :
    Calls Try.prog 18 #[.slice A m c] w fun e w' => e = .returned (.bool (validB l)) ∧ Below w.heap.size w w' := by
  subst hl
  have HV := Lib.hid (show validB l = (goodB l l.length && decide (l.length ≤ 100000)) from rfl)
  generalize validB l = V at *
  have hz := (zero_of_info zeroE).1
  have hE0 := Blk.new w 110 (endV (fun _ => false))
  have hB0 : Below w.heap.size w (w.alloc (.cells (endV (fun _ => false)).toArray 110)) := by (repeat' (first | (with_reducible exact Below.refl _ _) | (with_reducible assumption) | (with_reducible refine Below.alloc ?_ ?_ _) | (with_reducible refine Below.drew ?_) | (with_reducible refine below_drewN ?_ _) | (with_reducible refine Below.setCell ?_ ?_ _) | (with_reducible refine Below.trans ?_ (Below.mono (by assumption) ?_)) | (first | go_size | (with_reducible exact Below.size (by assumption)) | (with_reducible exact Nat.le_trans (Below.size (by assumption)) (Below.size (by assumption))) | (refine Nat.le_trans (Below.size (by assumption)) ?_; go_size))))
  go_enter Try.func18, Try.ntmps18
  go_upto_region 3 with fail
  generalize w.alloc (.cells (endV (fun _ => false)).toArray 110) = w1 at hE0 hB0 ⊢
  clear hz
  go_loopw [8] (fun v8 wr => ∃ k : Nat, k ≤ l.length ∧ v8 = .int .i64 k ∧ goodB l k = true ∧ Blk wr w.heap.size 110 (endV (fun t => enB (l.take k) t)) ∧ Below w.heap.size w wr) (fun v _ => l.length - (intOf v).toNat)
  case atStart => exact ⟨0, Nat.zero_le _, rfl, rfl, hE0, hB0⟩
  case round =>
    clear hE0 hB0
    obtain ⟨k, hk, rfl, hg, hE, hb⟩ := hrel
    by_cases hlt : k < l.length
    · obtain ⟨d, hd⟩ : ∃ d, l[k]? = some d := ⟨_, List.getElem?_eq_getElem hlt⟩
      obtain ⟨b, o, rfl, _, hbl, hcell⟩ := rd_dd (hr.keep (Ch.of_below hb (fun _ => False)) (fun _ _ _ e => e)) hd
      have hgs := goodB_succ l k hd
      rw [hg, Bool.true_and] at hgs
      have hsn := fun t => enB_snoc (l.take k) d t
      have hright := fun W => right_ok d W
      have hrb := rightB_iff (d := d)
      have HTK := Lib.hid (take_snoc l k d hd)
      have hel := hE.lt
      obtain ⟨t, kd, x, bb, aa, wt, en⟩ := d
      have c0 := hcell 0 _ rfl
      have c1 := hcell 1 _ rfl
      have c2 := hcell 2 _ rfl
      have c3 := hcell 3 _ rfl
      have c4 := hcell 4 _ rfl
      have c5 := hcell 5 _ rfl
      have c6 := hcell 6 _ rfl
      simp only [Dd.val, Dd.cells] at hright
      simp only [Nat.add_zero] at c0
      simp only at hgs hsn hrb
      have HGS := Lib.hid hgs
      have HSN := Lib.hid hsn
      have HMONO := Lib.hid (goodB_mono l (k + 1) l.length (by omega))
      have i1 : (0 : Int) ≤ k := Int.natCast_nonneg _
      have i2 : (k : Int) < l.length := by omega
      have hzr := hb.size
      clear hcell hsn hd hgs
      cases hR : rightB ⟨t, kd, x, bb, aa, wt, en⟩
      · rw [hR] at hright
        have hV : V = false := by
          rw [HV.out, Bool.and_eq_false_iff]
          left
          rw [← Bool.not_eq_true]
          intro h
          have h2 := HMONO.out h
          rw [HGS.out, hR] at h2
          cases h2
        subst hV
        clear hrb hR hg
        go_wp2_with (go_at_call 47; refine (hright _).mono ?_; rintro e w5 ⟨rfl, hb5⟩)
        go_ret
        exact ⟨rfl, hb.trans ((show Below wr.heap.size wr w5 from Below.trans (by (repeat' (first | (with_reducible exact Below.refl _ _) | (with_reducible assumption) | (with_reducible refine Below.alloc ?_ ?_ _) | (with_reducible refine Below.drew ?_) | (with_reducible refine below_drewN ?_ _) | (with_reducible refine Below.setCell ?_ ?_ _) | (with_reducible refine Below.trans ?_ (Below.mono (by assumption) ?_)) | (first | go_size | (with_reducible exact Below.size (by assumption)) | (with_reducible exact Nat.le_trans (Below.size (by assumption)) (Below.size (by assumption))) | (refine Nat.le_trans (Below.size (by assumption)) ?_; go_size))))) (hb5.mono (by simp))).mono hb.size)⟩
      · rw [hR] at hright
        obtain ⟨q1, q2, _⟩ := hrb.1 hR
        obtain ⟨n, rfl⟩ : ∃ n : Nat, t = n := ⟨t.toNat, by omega⟩
        have hn : n < 64 := by omega
        have n1 : (0 : Int) ≤ n := Int.natCast_nonneg _
        have n2 : (n : Int) < 64 := by omega
        have hE2 := hE
        clear hrb
        go_upto_region 5 with fail
        have hbA : Below w.heap.size w (wr.alloc (.cells [.int .i64 (n : Int), .int .i64 kd, .int .i64 x, .int .u64 bb, .int .u64 aa, .bool wt, .bool en].toArray 47)) := hb.alloc hb.size _
        have hDA := Blk.new wr 47 [.int .i64 (n : Int), .int .i64 kd, .int .i64 x, .int .u64 bb, .int .u64 aa, .bool wt, .bool en]
        have hEA := hE.keep ((Ch.refl (fun _ => False) _).alloc (.cells [.int .i64 (n : Int), .int .i64 kd, .int .i64 x, .int .u64 bb, .int .u64 aa, .bool wt, .bool en].toArray 47)) (fun e => e)
        generalize wr.alloc (.cells [.int .i64 (n : Int), .int .i64 kd, .int .i64 x, .int .u64 bb, .int .u64 aa, .bool wt, .bool en].toArray 47) = wa at *
        have d0 := hDA.cell 0
        have d1 := hDA.cell 1
        have d2 := hDA.cell 2
        have d3 := hDA.cell 3
        have d4 := hDA.cell 4
        have d5 := hDA.cell 5
        have d6 := hDA.cell 6
        simp only [List.getElem?_cons_succ, List.getElem?_cons_zero] at d0 d1 d2 d3 d4 d5 d6
        have hra := hright wa
        clear hE hE2 hb c0 c1 c2 c3 c4 c5 c6 hright
        have hza := hbA.size
        go_wp2_with fail
        refine hra.mono ?_
        rintro e w5 ⟨rfl, hb5⟩
        have hbB := hbA.trans (hb5.mono hbA.size)
        have hcB := Ch.of_below hb5 (fun _ => False)
        have hE5 := hEA.keep hcB (fun e => e)
        have g0 := hcB.keeps d0 (fun e => e)
        have g3 := hcB.keeps d6 (fun e => e)
        have en1 := (hE5.cell n).trans (endV_get _ hn)
        have ef := hE5.frozen n
        clear d0 d1 d2 d3 d4 d5 d6 hEA hDA hbA hra hb5 hcB
        cases hEn : enB (l.take k) n
        · rw [hEn] at en1
          have hnew : Blk (w5.setCell ⟨w.heap.size, n, none⟩ (.bool en)) w.heap.size 110 (endV (fun t => enB (l.take (k + 1)) t)) := by
            have h2 := hE5.set n (.bool en)
            rw [endV_set] at h2
            have h3 : endV (fun i => if i = n then en else enB (l.take k) (i : Nat)) = endV (fun t => enB (l.take (k + 1)) t) := endV_congr fun i hi => by
              rw [HTK.out, HSN.out]
              by_cases e : i = n
              · subst e; rw [if_pos rfl, hEn]; simp
              · rw [if_neg e]
                have : decide ((n : Int) = (i : Nat)) = false := decide_eq_false (by omega)
                rw [this]; simp
            rw [h3] at h2
            exact h2
          have hgk : goodB l (k + 1) = true := by rw [HGS.out, hR, hEn]; rfl
          have HN := Lib.hid (And.intro hgk (And.intro hnew (hbB.trans (((Ch.refl (fun j => j = w.heap.size) w5).setCell (p := ⟨w.heap.size, n, none⟩) (.inl rfl) (.bool en)).below (fun j _ e => by omega) hbB.size))))
          clear hnew hgk hE5 hEn hR hg
          go_wp2_with fail
          go_roundw
          case rel => exact ⟨k + 1, by omega, by go_num, HN.out.1, HN.out.2.1, HN.out.2.2⟩
          case measure => simp [intOf]; omega
        · rw [hEn] at en1
          have hV : V = false := by
            rw [HV.out, Bool.and_eq_false_iff]
            left
            rw [← Bool.not_eq_true]
            intro h
            have h2 := HMONO.out h
            rw [HGS.out, hR, hEn] at h2
            cases h2
          subst hV
          clear hEn hR hg
          go_wp2_with fail
          go_ret
          exact ⟨rfl, hbB⟩
    · obtain rfl : k = l.length := by omega
      have hV : V = decide ((l.length : Int) ≤ 100000) := by rw [HV.out, hg, Bool.true_and, decide_eq_decide]; omega
      subst hV
      cases hd : decide ((l.length : Int) ≤ 100000)
      · go_wp2_with fail
        go_ret
        exact ⟨ret_bool hd.symm, hb⟩
      · go_wp2_with fail
        go_ret
        exact ⟨ret_bool hd.symm, hb⟩
theorem wrong_ok (A : Option Addr) (l : List Dd) (m c : Nat) (w : World) {G : Nat → Prop} (hr : Rd G w A (dds l)) (hl : l.length = m) (hm : m ≤ 9223372036854775806) :
    Calls Try.prog 50 #[.slice A m c] w fun e w' => e = .returned (.int .i64 (wrongF l)) ∧ Below w.heap.size w w' := by
  have hc := valid_ok A l m c w hr hl hm
  have HW := Lib.hid (show wrongF l = if 100000 < l.length then 5 else if validB l = true then 0 else 2 from rfl)
  generalize wrongF l = E at *
  generalize validB l = V at *
  subst hl
  by_cases hlong : 100000 < l.length
  · have d1 : decide (100000 < (l.length : Int)) = true := decide_eq_true (by omega)
    have hE : E = 5 := by rw [HW.out, if_pos hlong]
    subst hE
    clear hc hlong
    go_enter Try.func50, Try.ntmps50
    go_wp2_with fail
    go_ret
    exact ⟨rfl, Below.refl _ _⟩
  · have d1 : decide (100000 < (l.length : Int)) = false := decide_eq_false (by omega)
    have h2 := HW.out
    rw [if_neg hlong] at h2
    clear hlong HW
    cases V
    · obtain rfl : E = 2 := by rw [h2]; rfl
      clear h2
      go_enter Try.func50, Try.ntmps50
      go_wp2_with fail
      refine hc.mono ?_
      rintro e w1 ⟨rfl, hb1⟩
      go_wp2_with fail
      go_ret
      exact ⟨rfl, hb1⟩
    · obtain rfl : E = 0 := by rw [h2]; rfl
      clear h2
      go_enter Try.func50, Try.ntmps50
      go_wp2_with fail
      refine hc.mono ?_
      rintro e w1 ⟨rfl, hb1⟩
      go_wp2_with fail
      go_ret
      exact ⟨rfl, hb1⟩
end Go.Proofs.Ytpndlggahdefcaa
