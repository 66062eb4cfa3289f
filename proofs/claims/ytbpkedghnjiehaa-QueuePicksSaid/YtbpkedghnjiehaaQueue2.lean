/-
  Contracts of package queue, second part: Round, From, Counts.
-/
import Derived.Test.YtbpkedghnjiehaaQueue
namespace Go.Proofs.Ytbpkedghnjiehaa
open Go.RowKit

theorem info_parts {P : Program} {T : TypeId} {z : Option Value} {size bytes : Nat} (h : (P.info? T).map (fun i => (i.zero, i.size, i.bytes)) = some (z, size, bytes)) : ∃ i, P.info? T = some i ∧ i.zero = z ∧ i.size = size ∧ i.bytes = bytes := by
  cases hi : P.info? T with
  | none => rw [hi] at h; cases h
  | some i =>
    rw [hi] at h
    injection h with h
    injection h with h1 h
    injection h with h2 h3
    exact ⟨i, rfl, h1, h2, h3⟩
theorem intInfo : (Try.prog.info? 3).map (fun i => (i.zero, i.size, i.bytes)) = some (some (.int .i64 0), 1, 8) := by kernel_rfl
theorem madeCells_one (z : Value) (n : Nat) : madeCells #[z] n = (List.replicate n z).toArray := by
  apply Array.ext
  · simp [madeCells]
  · intro i h1 h2
    simp [madeCells, Nat.mod_one]
def zeros (n : Nat) : List Int := List.replicate n 0
theorem zeros_length (n : Nat) : (zeros n).length = n := by simp [zeros]
theorem make_int (n : Nat) (hn : n ≤ 1000000) (w : World) :
    (Instr.makeSlice 28 (.int .i64 (n : Int)) (.int .i64 (n : Int))).run Try.prog w = .ok (.slice (some ⟨w.heap.size, 0, none⟩) n n) (w.alloc (.cells (ints (zeros n)).toArray 3)) := by
  obtain ⟨i0, hi0, hz0, hz1, hz2⟩ := info_parts intInfo
  have hr := run_make (P := Try.prog) w 28 3 i0 _ Try.underlying28 hi0 hz0 .i64 .i64 n n (by omega) (by omega) (by rw [hz2]; omega) (by omega)
  rw [hz1] at hr
  simp only [Int.toNat_natCast, Nat.mul_one] at hr
  rw [show (Value.int .i64 0).cells = #[.int .i64 0] from rfl, madeCells_one] at hr
  simpa [ints, zeros] using hr

/-- a result that is a list of the call's own, and an error -/
def ListP (w : World) (xs : List Int) (no : Int) (e : Ending) (w' : World) : Prop :=
  ∃ A c, e = .returned (.tuple #[.slice A xs.length c, .int .i64 no]) ∧ Rd (fun b => w.heap.size ≤ b) w' A (ints xs) ∧ xs.length ≤ c ∧ c ≤ 9223372036854775807 ∧ (A = none → c = 0) ∧ Below w.heap.size w w'
theorem own_cap {w : World} {base n c : Nat} {e : TypeId} {size : Nat} {A : Option Addr} {xs : List Value} (h : w.ownsRow base e size (.slice A n c) n xs) : c ≤ 9223372036854775807 := by
  rcases h.2 with ⟨e, _⟩ | ⟨g, cap, cur, e, _, _, _, h2, _⟩
  · injection e with _ _ e; omega
  · injection e with _ _ e; unfold maxLen at h2; omega
theorem ListP.of_own {w w' : World} {v : Value} {n : Nat} {xs : List Int} {no : Int} (h : w'.ownsRow w.heap.size 3 1 v n (ints xs)) (hn : xs.length = n) (hb : Below w.heap.size w w') : ListP w xs no (.returned (.tuple #[v, .int .i64 no])) w' := by
  obtain ⟨A, c, rfl, h1, h2⟩ := own_slice h
  subst hn
  exact ⟨A, c, rfl, (Rd.of_own h).mono (fun _ _ h => h.1), h1, own_cap h, h2, hb⟩
theorem ListP.nil {w w' : World} {no : Int} (hb : Below w.heap.size w w') : ListP w [] no (.returned (.tuple #[.slice none 0 0, .int .i64 no])) w' :=
  ⟨none, 0, rfl, Rd.nil _ _ _, Nat.le_refl _, by omega, fun _ => rfl, hb⟩
theorem ownBlock_ge {v : Value} {base n j : Nat} {w : World} {e : TypeId} {size : Nat} {xs : List Value} (h : w.ownsRow base e size v n xs) (hj : v.ownBlock = some j) : base ≤ j := by
  rcases h.2 with ⟨rfl, _⟩ | ⟨g', cap, cur, rfl, hb, _⟩
  · simp [Value.ownBlock] at hj
  · simp [Value.ownBlock] at hj; omega

def roundL (n : Int) (k : Nat) : List Int := (List.range k).map fun i => ((i : Nat) : Int) % n
theorem roundL_length (n : Int) (k : Nat) : (roundL n k).length = k := by simp [roundL]
theorem roundL_succ (n : Int) (k : Nat) : roundL n (k + 1) = roundL n k ++ [(k : Int) % n] := by simp [roundL, List.range_succ]
theorem thr_pos {n : Int} (h : thrB n = true) : 1 ≤ n ∧ n ≤ 64 := by simpa [thrB] using h
set_option maxHeartbeats 400000 in
theorem round_ok (n : Int) (m : Nat) (w : World) (ht : thrB n = true) (hm : m ≤ 100000) :
    Calls Try.prog 23 #[.int .i64 n, .int .i64 m] w (ListP w (roundL n m) 0) := by
  have hn := thr_pos ht
  obtain ⟨i0, hi0, hz0, hz1, hz2⟩ := info_parts intInfo
  have d1 : decide ((m : Int) < 0) = false := decide_eq_false (by omega)
  have d2 : decide (100000 < (m : Int)) = false := decide_eq_false (by omega)
  go_enter Try.func23, Try.ntmps23
  go_wp2_with (go_at_call 36; refine (some_yes _ _ ht).mono ?_; rintro e w' ⟨rfl, rfl⟩)
  go_loopw [6, 20] (fun v6 v20 wr => ∃ k : Nat, k ≤ m ∧ v20 = .int .i64 k ∧ wr.ownsRow w.heap.size 3 1 v6 k (ints (roundL n k)) ∧ Below w.heap.size w wr) (fun _ v _ => m - (intOf v).toNat)
  case atStart => exact ⟨0, Nat.zero_le _, rfl, own_none _ _ _ _, Below.refl _ _⟩
  case round =>
    obtain ⟨k, hk, rfl, hown, hb⟩ := hrel
    by_cases hlt : k < m
    · have hbr := Below.refl wr.heap.size wr
      have hbz := hb.size
      have HR := Lib.hid (roundL_succ n k)
      go_wp2_with ((at_builtin; refine wpList_append_rd _ rfl _ _ _ rfl w.heap.size 3 i0 _ 1 8 Try.underlying28 hi0 hz0 hz1 hz2 rfl (by omega) _ _ _ rfl (own_keep (own_keep hown (Ch.of_below hbr (fun _ => False)) (fun _ _ _ e => e)) ((Ch.refl (fun _ => False) _).alloc _) (fun _ _ _ e => e)) (some ⟨_, 0, none⟩) 1 1 [.int .i64 ((k : Int) % n)] rfl (Rd.of_blk (G := fun _ => True) (Blk.new _ _ [.int .i64 ((k : Int) % n)]) (List.prefix_refl _) trivial) (fun h => by cases h) rfl (by simp [Value.oneCell']) (by unfold maxLen; omega) (by omega) (by have := Below.size hbr; simp; omega) ?_))
      intro v3 w3 hown3 hch3 hat3
      have hb3 : Below w.heap.size w w3 := (hb.alloc hb.size _).trans (hch3.below (fun j hj e => ownBlock_ge hown e) (by have := hb.size; simp; omega))
      have hown4 : w3.ownsRow w.heap.size 3 1 v3 (k + 1) (ints (roundL n (k + 1))) := by rw [HR.out]; simpa [ints] using hown3
      clear hch3 hat3 hown hown3
      go_wp2
      go_roundw
      case rel => exact ⟨k + 1, by omega, by go_num, hown4, hb3⟩
      case measure => simp [intOf]; omega
    · obtain rfl : k = m := by omega
      go_wp2
      go_ret2
      exact ListP.of_own hown (roundL_length n k) hb
theorem round_bad (n m : Int) (w : World) (h : thrB n = false ∨ m < 0 ∨ 100000 < m) :
    Calls Try.prog 23 #[.int .i64 n, .int .i64 m] w (ListP w [] (if thrB n = false ∨ m < 0 then 2 else 5)) := by
  cases ht : thrB n with
  | false =>
    rw [if_pos (.inl rfl)]
    go_enter Try.func23, Try.ntmps23
    go_wp2_with (go_at_call 36; refine (some_no _ _ ht).mono ?_; rintro e w' ⟨rfl, rfl⟩)
    go_ret2
    exact ListP.nil (Below.refl _ _)
  | true =>
    by_cases h1 : m < 0
    · have d1 : decide (m < 0) = true := decide_eq_true h1
      rw [if_pos (.inr h1)]
      go_enter Try.func23, Try.ntmps23
      go_wp2_with (go_at_call 36; refine (some_yes _ _ ht).mono ?_; rintro e w' ⟨rfl, rfl⟩)
      go_ret2
      exact ListP.nil (Below.refl _ _)
    · have h2 : 100000 < m := by rw [ht] at h; rcases h with h | h | h; cases h; omega; exact h
      have d1 : decide (m < 0) = false := decide_eq_false h1
      have d2 : decide (100000 < m) = true := decide_eq_true h2
      rw [if_neg (by simp; omega)]
      clear h
      go_enter Try.func23, Try.ntmps23
      go_wp2_with (go_at_call 36; refine (some_yes _ _ ht).mono ?_; rintro e w' ⟨rfl, rfl⟩)
      go_ret2
      exact ListP.nil (Below.refl _ _)

def fromL (n : Int) (bs : List Int) : List Int := bs.map (· % n)
theorem fromL_length (n : Int) (bs : List Int) : (fromL n bs).length = bs.length := by simp [fromL]
theorem fromL_snoc (n : Int) (bs : List Int) (k : Nat) (h : k < bs.length) : fromL n (bs.take (k + 1)) = fromL n (bs.take k) ++ [bs.getD k 0 % n] := by rw [qtake_snoc bs k h]; simp [fromL]
def u8s (xs : List Int) : List Value := xs.map (.int .u8)
theorem u8s_at (xs : List Int) (k : Nat) (h : k < xs.length) : (u8s xs)[k]? = some (.int .u8 (xs.getD k 0)) := by
  simp [u8s, List.getD, List.getElem?_eq_getElem h]
theorem rd_u8 {G : Nat → Prop} {w : World} {A : Option Addr} {xs : List Int} (h : Rd G w A (u8s xs)) {k : Nat} (hk : k < xs.length) :
    ∃ b o, A = some ⟨b, o, none⟩ ∧ G b ∧ b < w.heap.size ∧ w.cell? ⟨b, o + k, none⟩ = some (.int .u8 (xs.getD k 0)) := by
  obtain ⟨b, o, e, hg, hl, hv⟩ := h (by intro e; have := u8s_at xs k hk; rw [e] at this; cases this)
  exact ⟨b, o, e, hg, hl, hv k _ (u8s_at xs k hk)⟩
theorem getD_mem {xs : List Int} {k : Nat} (h : k < xs.length) : xs.getD k 0 ∈ xs := by simp [List.getD, List.getElem?_eq_getElem h]
set_option maxHeartbeats 400000 in
theorem from_ok (A : Option Addr) (bs : List Int) (m c : Nat) (n : Int) (w : World) (hr : Rd (fun _ => True) w A (u8s bs)) (hl : bs.length = m) (hwf : ∀ x ∈ bs, 0 ≤ x ∧ x ≤ 255) (ht : thrB n = true) (hm : m ≤ 100000) :
    Calls Try.prog 35 #[.slice A m c, .int .i64 n] w (ListP w (fromL n bs) 0) := by
  have hn := thr_pos ht
  subst hl
  obtain ⟨i0, hi0, hz0, hz1, hz2⟩ := info_parts intInfo
  have d2 : decide (100000 < (bs.length : Int)) = false := decide_eq_false (by omega)
  go_enter Try.func35, Try.ntmps35
  go_wp2_with (go_at_call 36; refine (some_yes _ _ ht).mono ?_; rintro e w' ⟨rfl, rfl⟩)
  go_loopw [6, 19] (fun v6 v20 wr => ∃ k : Nat, k ≤ bs.length ∧ v20 = .int .i64 k ∧ wr.ownsRow w.heap.size 3 1 v6 k (ints (fromL n (bs.take k))) ∧ Below w.heap.size w wr) (fun _ v _ => bs.length - (intOf v).toNat)
  case atStart => exact ⟨0, Nat.zero_le _, rfl, own_none _ _ _ _, Below.refl _ _⟩
  case round =>
    obtain ⟨k, hk, rfl, hown, hb⟩ := hrel
    by_cases hlt : k < bs.length
    · obtain ⟨b, o, rfl, _, hbs, hcell⟩ := rd_u8 (hr.keep (Ch.of_below hb (fun _ => False)) (fun _ _ _ e => e)) hlt
      have hxw := hwf _ (getD_mem hlt)
      obtain ⟨x, hx⟩ : ∃ x, x = bs.getD k 0 := ⟨_, rfl⟩
      rw [← hx] at hcell hxw
      have HX := Lib.hid hx
      have hbr := Below.refl wr.heap.size wr
      have hbz := hb.size
      have HR := Lib.hid (fromL_snoc n bs k hlt)
      clear hx
      go_wp2_with ((at_builtin; refine wpList_append_rd _ rfl _ _ _ rfl w.heap.size 3 i0 _ 1 8 Try.underlying28 hi0 hz0 hz1 hz2 rfl (by omega) _ _ _ rfl (own_keep (own_keep hown (Ch.of_below hbr (fun _ => False)) (fun _ _ _ e => e)) ((Ch.refl (fun _ => False) _).alloc _) (fun _ _ _ e => e)) (some ⟨_, 0, none⟩) 1 1 [.int .i64 (x % n)] rfl (Rd.of_blk (G := fun _ => True) (Blk.new _ _ [.int .i64 (x % n)]) (List.prefix_refl _) trivial) (fun h => by cases h) rfl (by simp [Value.oneCell']) (by unfold maxLen; omega) (by omega) (by have := Below.size hbr; simp; omega) ?_))
      intro v3 w3 hown3 hch3 hat3
      have hb3 : Below w.heap.size w w3 := (hb.alloc hb.size _).trans (hch3.below (fun j hj e => ownBlock_ge hown e) (by have := hb.size; simp; omega))
      have hown4 : w3.ownsRow w.heap.size 3 1 v3 (k + 1) (ints (fromL n (bs.take (k + 1)))) := by rw [HR.out, ← HX.out]; simpa [ints] using hown3
      clear hch3 hat3 hown hown3
      go_wp2
      go_roundw
      case rel => exact ⟨k + 1, by omega, by go_num, hown4, hb3⟩
      case measure => simp [intOf]; omega
    · obtain rfl : k = bs.length := by omega
      rw [List.take_length] at hown
      go_wp2
      go_ret2
      exact ListP.of_own hown (fromL_length n bs) hb
theorem from_bad (A : Option Addr) (m c : Nat) (n : Int) (w : World) (h : thrB n = false ∨ 100000 < m) :
    Calls Try.prog 35 #[.slice A m c, .int .i64 n] w (ListP w [] (if thrB n = false then 2 else 5)) := by
  cases ht : thrB n with
  | false =>
    rw [if_pos rfl]
    go_enter Try.func35, Try.ntmps35
    go_wp2_with (go_at_call 36; refine (some_no _ _ ht).mono ?_; rintro e w' ⟨rfl, rfl⟩)
    go_ret2
    exact ListP.nil (Below.refl _ _)
  | true =>
    have h2 : 100000 < m := by rw [ht] at h; rcases h with h | h; cases h; exact h
    have d2 : decide (100000 < (m : Int)) = true := decide_eq_true (by omega)
    rw [if_neg (by simp)]
    clear h
    go_enter Try.func35, Try.ntmps35
    go_wp2_with (go_at_call 36; refine (some_yes _ _ ht).mono ?_; rintro e w' ⟨rfl, rfl⟩)
    go_ret2
    exact ListP.nil (Below.refl _ _)

set_option maxHeartbeats 400000 in
theorem counts_ok (A : Option Addr) (xs : List Int) (m c n : Nat) (w : World) (hr : Rd (fun _ => True) w A (ints xs)) (hl : xs.length = m) (ht : thrB n = true) (hm : m ≤ 100000) (ha : xs.all (inB n) = true) :
    Calls Try.prog 29 #[.slice A m c, .int .i64 n] w (ListP w (cntL xs n) 0) := by
  have hn := thr_pos ht
  have hw0 := fun W hR => wrong_any A xs m c n W hR hl (by omega)
  rw [show wrongE xs n = 0 from by unfold wrongE; rw [if_neg (by rw [ht]; simp), if_neg (by omega), if_pos ha]] at hw0
  have hal := all_in ha
  subst hl
  have hmk := fun W => make_int n (by omega) W
  clear ha
  go_enter Try.func29, Try.ntmps29
  go_wp2_with fail
  refine (hw0 _ hr).mono ?_
  rintro e w1 ⟨rfl, hb1⟩
  have hz1 := hb1.size
  clear hw0
  go_wp2
  go_loopw [20] (fun v wr => ∃ k : Nat, k ≤ xs.length ∧ v = .int .i64 k ∧ Blk wr w1.heap.size 3 (ints (cntL (xs.take k) n)) ∧ Below w.heap.size w wr) (fun v _ => xs.length - (intOf v).toNat)
  case atStart => exact ⟨0, Nat.zero_le _, rfl, by rw [List.take_zero, cntL_zero]; exact Blk.new _ _ _, by (repeat' (first | (with_reducible exact Below.refl _ _) | (with_reducible assumption) | (with_reducible refine Below.alloc ?_ ?_ _) | (with_reducible refine Below.drew ?_) | (with_reducible refine below_drewN ?_ _) | (with_reducible refine Below.setCell ?_ ?_ _) | (with_reducible refine Below.trans ?_ (Below.mono (by assumption) ?_)) | (first | go_size | (with_reducible exact Below.size (by assumption)) | (with_reducible exact Nat.le_trans (Below.size (by assumption)) (Below.size (by assumption))) | (refine Nat.le_trans (Below.size (by assumption)) ?_; go_size))))⟩
  case round =>
    obtain ⟨k, hk, rfl, hB, hb⟩ := hrel
    have hbsz := hb.size
    by_cases hlt : k < xs.length
    · obtain ⟨b, o, rfl, _, hbs, hcell⟩ := rd_int (hr.keep (Ch.of_below hb (fun _ => False)) (fun _ _ _ e => e)) hlt
      obtain ⟨t, ht1, ht2⟩ := hal k hlt
      have hsn := cntL_snoc xs k n t hlt ht2 ht1
      rw [ht1] at hcell
      have hcl := cnt_le (xs.take k) (t : Int)
      have hcl2 : (xs.take k).length ≤ k := List.length_take_le _ _
      have hcc := hB.cell t
      rw [ints_get (cntL_get (xs.take k) n t ht2)] at hcc
      have hfz := hB.frozen t
      have hset := hB.set t (.int .i64 ((cnt (xs.take k) t : Int) + 1))
      rw [ints_set, ← hsn] at hset
      have HSET := Lib.hid hset
      generalize cnt (xs.take k) t = q at *
      have HT := Lib.hid ht1
      have i1 : (0 : Int) ≤ t := Int.natCast_nonneg _
      have i2 : (t : Int) < n := by omega
      clear hsn ht1 hset
      go_wp2
      go_roundw
      case rel => exact ⟨k + 1, by omega, by go_num, HSET.out, by (repeat' (first | (with_reducible exact Below.refl _ _) | (with_reducible assumption) | (with_reducible refine Below.alloc ?_ ?_ _) | (with_reducible refine Below.drew ?_) | (with_reducible refine below_drewN ?_ _) | (with_reducible refine Below.setCell ?_ ?_ _) | (with_reducible refine Below.trans ?_ (Below.mono (by assumption) ?_)) | (first | go_size | (with_reducible exact Below.size (by assumption)) | (with_reducible exact Nat.le_trans (Below.size (by assumption)) (Below.size (by assumption))) | (refine Nat.le_trans (Below.size (by assumption)) ?_; go_size))))⟩
      case measure => simp [intOf]; omega
    · obtain rfl : k = xs.length := by omega
      rw [List.take_length] at hB
      go_wp2
      go_ret2
      refine ⟨some ⟨w1.heap.size, 0, none⟩, n, by rw [cntL_length]; rfl, Rd.of_blk hB (List.prefix_refl _) (by omega), by rw [cntL_length]; exact Nat.le_refl _, by omega, fun e => (by cases e), hb⟩
theorem wrongE_bd (xs : List Int) (n : Int) : 0 ≤ wrongE xs n ∧ wrongE xs n ≤ 17 := by unfold wrongE; (repeat' split) <;> omega
theorem counts_bad (A : Option Addr) (xs : List Int) (m c : Nat) (n : Int) (w : World) (hr : Rd (fun _ => True) w A (ints xs)) (hl : xs.length = m) (hm : m ≤ 9223372036854775806) (ha : wrongE xs n ≠ 0) :
    Calls Try.prog 29 #[.slice A m c, .int .i64 n] w (ListP w [] (wrongE xs n)) := by
  have hw0 := fun W hR => wrong_any A xs m c n W hR hl hm
  have hbd := wrongE_bd xs n
  generalize wrongE xs n = E at *
  have d1 : (E == 0) = false := by rw [beq_eq_false_iff_ne]; exact ha
  have d2 : (E != 0) = true := by rw [bne_iff_ne]; exact ha
  clear ha
  go_enter Try.func29, Try.ntmps29
  go_wp2_with fail
  refine (hw0 _ hr).mono ?_
  rintro e w1 ⟨rfl, hb1⟩
  clear hw0
  go_wp2
  go_ret2
  exact ListP.nil hb1
end Go.Proofs.Ytbpkedghnjiehaa
