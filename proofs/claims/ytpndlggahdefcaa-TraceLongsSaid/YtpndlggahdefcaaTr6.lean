/-
  Contracts of package trace, fifth part: Changes.
-/
import Derived.Test.YtpndlggahdefcaaTr5
namespace Go.Proofs.Ytpndlggahdefcaa
open Go.RowKit
set_option linter.unusedSimpArgs false
set_option linter.unusedVariables false

def ints (xs : List Int) : List Value := xs.map (.int .i64)
theorem info_parts {P : Program} {T : TypeId} {z : Option Value} {size bytes : Nat} (h : (P.info? T).map (fun i => (i.zero, i.size, i.bytes)) = some (z, size, bytes)) : ∃ i, P.info? T = some i ∧ i.zero = z ∧ i.size = size ∧ i.bytes = bytes := by
  cases hi : P.info? T with
  | none => rw [hi] at h; cases h
  | some i =>
    rw [hi] at h
    injection h with h
    injection h with h1 h
    injection h with h2 h3
    exact ⟨i, rfl, h1, h2, h3⟩
theorem ownBlock_ge {v : Value} {base n j : Nat} {w : World} {e : TypeId} {size : Nat} {xs : List Value} (h : w.ownsRow base e size v n xs) (hj : v.ownBlock = some j) : base ≤ j := by
  rcases h.2 with ⟨rfl, _⟩ | ⟨g', cap, cur, rfl, hb, _⟩
  · simp [Value.ownBlock] at hj
  · simp [Value.ownBlock] at hj; omega

theorem intInfo : (Try.prog.info? 3).map (fun i => (i.zero, i.size, i.bytes)) = some (some (.int .i64 0), 1, 8) := by kernel_rfl
/-- the indices of the first k that change word x -/
def chgL (l : List Dd) (x : Int) : Nat → List Int
  | 0 => []
  | k + 1 => chgL l x k ++ (match l[k]? with | some d => if chB d x = true then [(k : Int)] else [] | none => [])
theorem chgL_succ (l : List Dd) (x : Int) (k : Nat) {d : Dd} (h : l[k]? = some d) : chgL l x (k + 1) = chgL l x k ++ if chB d x = true then [(k : Int)] else [] := by
  show chgL l x k ++ (match l[k]? with | some d => if chB d x = true then [(k : Int)] else [] | none => []) = _
  rw [h]
theorem chgL_len (l : List Dd) (x : Int) : ∀ k, (chgL l x k).length ≤ k
  | 0 => Nat.le_refl _
  | k + 1 => by
    have := chgL_len l x k
    show (chgL l x k ++ _).length ≤ _
    rw [List.length_append]
    have h2 : ∀ o : Option Dd, (match o with | some d => if chB d x = true then [(k : Int)] else [] | none => []).length ≤ 1 := by
      intro o
      cases o with
      | none => simp
      | some d => simp only []; split <;> simp
    have := h2 l[k]?
    omega
def ChPost (w : World) (l : List Dd) (x : Int) (e : Ending) (w' : World) : Prop :=
  Below w.heap.size w w' ∧
  ((wrongF l ≠ 0 ∧ e = .returned (.tuple #[.slice none 0 0, .int .i64 (wrongF l)])) ∨
   (wrongF l = 0 ∧ (x < 0 ∨ 65536 ≤ x) ∧ e = .returned (.tuple #[.slice none 0 0, .int .i64 2])) ∨
   (wrongF l = 0 ∧ 0 ≤ x ∧ x < 65536 ∧ ∃ base v, w.heap.size ≤ base ∧ w'.ownsRow base 3 1 v (chgL l x l.length).length (ints (chgL l x l.length)) ∧ e = .returned (.tuple #[v, .int .i64 0])))
set_option maxHeartbeats 2000000 in
theorem chgs_ok (B : Option Addr) (l : List Dd) (x : Int) (m d : Nat) (w : World)
    (hr : Rd (fun b => b < w.heap.size) w B (dds l)) (hl : l.length = m) (hm : m ≤ 9223372036854775806) :
    Calls Try.prog 56 #[.slice B m d, .int .i64 x] w (ChPost w l x) := by
  have hwr := wrong_ok B l m d w hr hl hm
  subst hl
  by_cases hE : wrongF l = 0
  · have H0 := Lib.hid hE
    rw [hE] at hwr
    have hlong : l.length ≤ 100000 := by
      unfold wrongF at hE
      split at hE
      · cases hE
      · omega
    clear hE
    by_cases h1 : 0 ≤ x ∧ x < 65536
    · have d1 : decide (x < 0) = false := decide_eq_false (by omega)
      have d2 : decide (x ≥ 65536) = false := decide_eq_false (by omega)
      obtain ⟨i0, hi0, hz0, hz1, hz2⟩ := info_parts intInfo
      go_enter Try.func56, Try.ntmps56
      go_wp2_with (go_at_call 50; refine hwr.mono ?_; rintro e w1 ⟨rfl, hb1⟩)
      go_loopw [7, 23] (fun v7 v23 wr => ∃ k : Nat, k ≤ l.length ∧ v23 = .int .i64 k ∧ wr.ownsRow w1.heap.size 3 1 v7 (chgL l x k).length (ints (chgL l x k)) ∧ Below w.heap.size w wr ∧ w1.heap.size ≤ wr.heap.size) (fun _ v _ => l.length - (intOf v).toNat)
      case atStart => exact ⟨0, Nat.zero_le _, rfl, own_none _ _ _ _, hb1, Nat.le_refl _⟩
      case round =>
        obtain ⟨k, hk, rfl, hown, hb, hz⟩ := hrel
        by_cases hlt : k < l.length
        · obtain ⟨dd, hd⟩ : ∃ d, l[k]? = some d := ⟨_, List.getElem?_eq_getElem hlt⟩
          obtain ⟨b0, o, rfl, _, hbl, hcell⟩ := rd_dd (hr.keep (Ch.of_below hb (fun _ => False)) (fun _ _ _ e => e)) hd
          have hchg := fun W => changes_ok dd x W
          have HR := Lib.hid (chgL_succ l x k hd)
          have HLN := chgL_len l x k
          obtain ⟨t, kd, y, bb, aa, wt, en⟩ := dd
          have c0 := hcell 0 _ rfl
          have c1 := hcell 1 _ rfl
          have c2 := hcell 2 _ rfl
          have c3 := hcell 3 _ rfl
          have c4 := hcell 4 _ rfl
          have c5 := hcell 5 _ rfl
          have c6 := hcell 6 _ rfl
          simp only [Nat.add_zero] at c0
          simp only [Dd.val, Dd.cells] at hchg
          have i1 : (0 : Int) ≤ k := Int.natCast_nonneg _
          have i2 : (k : Int) < l.length := by omega
          have HR0 := Lib.hid hr
          have H0W := hb1.size
          clear hcell hd hr hb1 hwr
          go_upto_region 10 with fail
          have hbA : Below w.heap.size w (wr.alloc (.cells [.int .i64 t, .int .i64 kd, .int .i64 y, .int .u64 bb, .int .u64 aa, .bool wt, .bool en].toArray 47)) := hb.alloc hb.size _
          have hDA := Blk.new wr 47 [.int .i64 t, .int .i64 kd, .int .i64 y, .int .u64 bb, .int .u64 aa, .bool wt, .bool en]
          have hownA := own_keep hown ((Ch.refl (fun _ => False) _).alloc (.cells [.int .i64 t, .int .i64 kd, .int .i64 y, .int .u64 bb, .int .u64 aa, .bool wt, .bool en].toArray 47)) (fun _ _ _ e => e)
          have hzA : w1.heap.size ≤ (wr.alloc (.cells [.int .i64 t, .int .i64 kd, .int .i64 y, .int .u64 bb, .int .u64 aa, .bool wt, .bool en].toArray 47)).heap.size := by rw [World.size_alloc]; omega
          generalize wr.alloc (.cells [.int .i64 t, .int .i64 kd, .int .i64 y, .int .u64 bb, .int .u64 aa, .bool wt, .bool en].toArray 47) = wa at *
          have d0 := hDA.cell 0
          have d1 := hDA.cell 1
          have d2 := hDA.cell 2
          have d3 := hDA.cell 3
          have d4 := hDA.cell 4
          have d5 := hDA.cell 5
          have d6 := hDA.cell 6
          simp only [List.getElem?_cons_succ, List.getElem?_cons_zero] at d0 d1 d2 d3 d4 d5 d6
          have hcw := hchg wa
          clear hDA hb hown hbl c0 c1 c2 c3 c4 c5 c6 hchg
          cases hC : chB ⟨t, kd, y, bb, aa, wt, en⟩ x
          · rw [hC] at hcw
            have HR2 := Lib.hid (show chgL l x (k + 1) = chgL l x k by rw [HR.out, hC]; simp)
            clear hC
            go_wp2_with fail
            refine hcw.mono ?_
            rintro e w5 ⟨rfl, hb5⟩
            have hown5 := own_keep hownA (Ch.of_below hb5 (fun _ => False)) (fun _ _ _ e => e)
            have hbB := hbA.trans (hb5.mono hbA.size)
            have hzB := Nat.le_trans hzA hb5.size
            clear hcw
            go_wp2_with fail
            go_roundw
            case rel => exact ⟨k + 1, by omega, by go_num, by rw [HR2.out]; exact hown5, hbB, hzB⟩
            case measure => simp [intOf]; omega
          · rw [hC] at hcw
            have HR2 := Lib.hid (show chgL l x (k + 1) = chgL l x k ++ [(k : Int)] by rw [HR.out, hC]; simp)
            clear hC
            go_wp2_with fail
            refine hcw.mono ?_
            rintro e w5 ⟨rfl, hb5⟩
            have hown5 := own_keep hownA (Ch.of_below hb5 (fun _ => False)) (fun _ _ _ e => e)
            have hbB := hbA.trans (hb5.mono hbA.size)
            have hzB := Nat.le_trans hzA hb5.size
            have hbr := Below.refl w5.heap.size w5
            clear hcw d0 d1 d2 d3 d4 d5 d6 hownA
            go_wp2_with ((at_builtin; refine wpList_append_rd _ rfl _ _ _ rfl w1.heap.size 3 i0 _ 1 8 Try.underlying68 hi0 hz0 hz1 hz2 rfl (by omega) _ _ _ rfl (own_keep (own_keep hown5 (Ch.of_below hbr (fun _ => False)) (fun _ _ _ e => e)) ((Ch.refl (fun _ => False) _).alloc _) (fun _ _ _ e => e)) (some ⟨_, 0, none⟩) 1 1 [.int .i64 (k : Int)] rfl (Rd.of_blk (G := fun _ => True) (Blk.new _ _ [.int .i64 (k : Int)]) (List.prefix_refl _) trivial) (fun h => by cases h) rfl (by simp [Value.oneCell']) (by unfold maxLen; omega) (by omega) (by have := Below.size hbr; simp; omega) ?_))
            intro v3 w3 hown3 hch3 hat3
            have hb3 : Below w.heap.size w w3 := (hbB.alloc hbB.size _).trans (hch3.below (fun j hj e => by have := ownBlock_ge hown5 e; have := H0W; omega) (by have := hbB.size; simp; omega))
            have hz3 : w1.heap.size ≤ w3.heap.size := by have := hch3.size; simp at this; omega
            have hown4 : w3.ownsRow w1.heap.size 3 1 v3 (chgL l x (k + 1)).length (ints (chgL l x (k + 1))) := by rw [HR2.out]; simpa [ints] using hown3
            clear hch3 hat3 hown5 hown3
            go_wp2_with fail
            go_roundw
            case rel => exact ⟨k + 1, by omega, by go_num, hown4, hb3, hz3⟩
            case measure => simp [intOf]; omega
        · obtain rfl : k = l.length := by omega
          go_wp2_with fail
          go_ret2
          exact ⟨hb, .inr (.inr ⟨H0.out, h1.1, h1.2, _, _, hb1.size, hown, rfl⟩)⟩
    · have H1 := Lib.hid (show x < 0 ∨ 65536 ≤ x by omega)
      rcases H1.out with h | h
      · have d1 : decide (x < 0) = true := decide_eq_true h
        clear h h1
        go_enter Try.func56, Try.ntmps56
        go_wp2_with (go_at_call 50; refine hwr.mono ?_; rintro e w1 ⟨rfl, hb1⟩)
        go_ret2
        exact ⟨hb1, .inr (.inl ⟨H0.out, H1.out, rfl⟩)⟩
      · have d1 : decide (x < 0) = false := decide_eq_false (by omega)
        have d2 : decide (x ≥ 65536) = true := decide_eq_true h
        clear h h1
        go_enter Try.func56, Try.ntmps56
        go_wp2_with (go_at_call 50; refine hwr.mono ?_; rintro e w1 ⟨rfl, hb1⟩)
        go_ret2
        exact ⟨hb1, .inr (.inl ⟨H0.out, H1.out, rfl⟩)⟩
  · have H0 := Lib.hid hE
    obtain ⟨E, hEE⟩ : ∃ E, wrongF l = E := ⟨_, rfl⟩
    rw [hEE] at hwr hE
    have d1 : (E != 0) = true := by rw [bne_iff_ne]; exact hE
    have HE := Lib.hid hEE
    clear hE hEE
    go_enter Try.func56, Try.ntmps56
    go_wp2_with (go_at_call 50; refine hwr.mono ?_; rintro e w1 ⟨rfl, hb1⟩)
    go_ret2
    exact ⟨hb1, .inl ⟨H0.out, by rw [HE.out]; rfl⟩⟩
end Go.Proofs.Ytpndlggahdefcaa
