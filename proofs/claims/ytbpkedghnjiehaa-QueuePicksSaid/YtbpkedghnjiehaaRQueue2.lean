/-
  Contracts of the reference of queue, second part: Fair, Window, Same.
-/
import Derived.Test.YtbpkedghnjiehaaRQueue
namespace Go.Proofs.Ytbpkedghnjiehaa
open Go.RowKit

theorem cnt_zero_iff (xs : List Int) (t : Int) : cnt xs t = 0 ↔ ∀ j, j < xs.length → xs.getD j 0 ≠ t := by
  unfold cnt
  rw [List.countP_eq_zero]
  constructor
  · intro h j hj e
    exact h _ (getD_mem hj) (by rw [e]; simp)
  · intro h x hx e
    obtain ⟨j, hj, rfl⟩ := List.getElem_of_mem hx
    rw [beq_iff_eq] at e
    exact h j hj (by simpa [List.getD, List.getElem?_eq_getElem hj] using e)
theorem win_get (xs : List Int) (a m j : Nat) (hj : j < m) : ((xs.drop a).take m).getD j 0 = xs.getD (a + j) 0 := by
  simp [List.getD, hj]
theorem win_len (xs : List Int) (a m : Nat) (h : a + m ≤ xs.length) : ((xs.drop a).take m).length = m := by simp; omega
theorem win_has (xs : List Int) (a m : Nat) (t : Int) (h : a + m ≤ xs.length) : cnt ((xs.drop a).take m) t ≠ 0 ↔ hasW xs a m t := by
  rw [Ne, cnt_zero_iff, win_len xs a m h]
  constructor
  · intro hn
    apply Classical.byContradiction
    intro hw
    refine hn fun j hj e => hw ⟨a + j, by omega, by omega, ?_⟩
    rwa [win_get xs a m j hj] at e
  · rintro ⟨j, j1, j2, j3⟩ hn
    refine hn (j - a) (by omega) ?_
    rw [win_get xs a m _ (by omega), show a + (j - a) = j by omega]
    exact j3
def fairTo (xs : List Int) (n m k : Nat) : Prop := ∀ a, a < k → a + m ≤ xs.length → ∀ t : Nat, t < n → hasW xs a m t
theorem slice_rd {w : World} {b o : Nat} {xs : List Int} {G : Nat → Prop} (h : Rd G w (some ⟨b, o, none⟩) (ints xs)) (a m : Nat) (ham : a + m ≤ xs.length) : Rd G w (some ⟨b, o + a, none⟩) (ints ((xs.drop a).take m)) := fun hne => by
  have hm : 0 < m := by
    rcases Nat.eq_zero_or_pos m with e | e
    · subst e; simp [ints] at hne
    · exact e
  obtain ⟨b', o', e, hg, hb, hv⟩ := h (by intro e; have : xs = [] := by simpa [ints] using e
                                          subst this; simp at ham; omega)
  injection e with e
  injection e with e1 e2
  subst e1 e2
  refine ⟨b, o + a, rfl, hg, hb, fun j v hj => ?_⟩
  have hjm : j < m := by
    have := (List.getElem?_eq_some_iff.1 hj).1
    rw [ints_length, win_len xs a m ham] at this
    exact this
  rw [show o + a + j = o + (a + j) by omega]
  refine hv (a + j) v ?_
  rw [← hj]
  simp [ints, hjm]
set_option maxHeartbeats 1000000 in
theorem rfair_any (A : Option Addr) (xs : List Int) (m c n s : Nat) (w : World) (hr : Rd (fun _ => True) w A (ints xs)) (hl : xs.length = m) (hm : m ≤ 100000) (hmc : m ≤ c) (hcm : c ≤ 9223372036854775807) (hn : n ≤ 1000) (hs : 1 ≤ s) (hs2 : s ≤ 9223372036854775807) (v : Bool) (hv : v = true ↔ FairP xs n s) :
    Calls Try.prog 22 #[.slice A m c, .int .i64 n, .int .i64 s] w fun e w' => e = .returned (.bool v) ∧ w = w' := by
  have HV := Lib.hid hv
  subst hl
  clear hv
  go_enter Try.func22, Try.ntmps22
  go_wp2_with fail
  go_loopw [7] (fun v wr => ∃ k : Nat, k ≤ xs.length ∧ v = .int .i64 k ∧ fairTo xs n s k ∧ w = wr) (fun v _ => xs.length - (intOf v).toNat)
  case atStart => exact ⟨0, Nat.zero_le _, rfl, fun a h => by omega, rfl⟩
  case round =>
    obtain ⟨k, hk, rfl, hf, rfl⟩ := hrel
    have HF := Lib.hid hf
    clear hf
    by_cases hlt : k < xs.length
    · by_cases hks : k + s ≤ xs.length
      · have hk2 : k ≤ xs.length := hk
        obtain ⟨b, o, rfl, _, hb, _⟩ := rd_int hr hlt
        have hrs := slice_rd hr k s hks
        have hll := win_len xs k s hks
        have i1 : (0 : Int) ≤ k := Int.natCast_nonneg _
        have i2 : (k : Int) < xs.length := by omega
        have i3 : (k : Int) + s ≤ c := by omega
        have i4 : (k : Int) ≤ k + s := by omega
        have d1 : decide ((s : Int) ≤ (xs.length : Int) - k) = true := decide_eq_true (by omega)
        have hcc : k ≠ c := by omega
        have hay' := fun W hR h3 => rall_yes (some ⟨b, o + k, none⟩) ((xs.drop k).take s) s (c - k) n W hR hll (by omega) (by omega) hn h3
        have hano' := fun W hR h3 => rall_no (some ⟨b, o + k, none⟩) ((xs.drop k).take s) s (c - k) n W hR hll (by omega) (by omega) hn h3
        by_cases hw : ∀ t : Nat, t < n → hasW xs k s t
        · have hfn : fairTo xs n s (k + 1) := fun a ha1 ha2 t ht => by
            by_cases e : a = k
            · subst e; exact hw t ht
            · exact HF.out a (by omega) ha2 t ht
          have HFN := Lib.hid hfn
          have hcall := hay' w hrs (fun t ht => (win_has xs k s t hks).2 (hw t ht))
          clear hw hfn hay' hano' hll
          go_wp2_with fail
          refine hcall.mono ?_
          rintro e w' ⟨rfl, rfl⟩
          go_wp2
          go_roundw
          case rel => exact ⟨k + 1, by omega, by go_num, HFN.out, by first | rfl | trivial⟩
          case measure => simp [intOf]; omega
        · have hex : ∃ t : Nat, t < n ∧ cnt ((xs.drop k).take s) t = 0 := by
            apply Classical.byContradiction
            intro hne
            refine hw fun t ht => (win_has xs k s t hks).1 fun e => hne ⟨t, ht, e⟩
          have hcall := hano' w hrs hex
          have hvf : v = false := by
            rw [Bool.eq_false_iff]
            intro e
            exact hw fun t ht => HV.out.1 e k hks t ht
          have HVF := Lib.hid hvf
          clear hw hay' hano' hll hex hvf
          go_wp2_with fail
          refine hcall.mono ?_
          rintro e w' ⟨rfl, rfl⟩
          go_wp2
          go_ret
          exact ⟨by rw [HVF.out]; rfl, rfl⟩
      · have d1 : decide ((s : Int) ≤ (xs.length : Int) - k) = false := decide_eq_false (by omega)
        have hvt : v = true := HV.out.2 fun a ha t ht => HF.out a (by omega) ha t ht
        have HVT := Lib.hid hvt
        clear hvt
        go_wp2
        go_ret
        exact ⟨by rw [HVT.out]; rfl, rfl⟩
    · obtain rfl : k = xs.length := by omega
      have hvt : v = true := HV.out.2 fun a ha t ht => HF.out a (by omega) ha t ht
      have HVT := Lib.hid hvt
      clear hvt
      go_wp2
      go_ret
      exact ⟨by rw [HVT.out]; rfl, rfl⟩
theorem fair_pure (xs : List Int) (n s : Nat) (ha : xs.all (inB n) = true) (hs : 1 ≤ s) : decide (windowI xs n ≤ s) = true ↔ FairP xs n s := by
  rw [decide_eq_true_eq]
  exact window_iff xs n (all_in ha) s hs
theorem rwindow_any (A : Option Addr) (xs : List Int) (m c n : Nat) (w : World) (hr : Rd (fun _ => True) w A (ints xs)) (hl : xs.length = m) (hm : m ≤ 100000) (hmc : m ≤ c) (hcm : c ≤ 9223372036854775807) (hn : n ≤ 1000) (ha : xs.all (inB n) = true) :
    Calls Try.prog 21 #[.slice A m c, .int .i64 n] w fun e w' => e = .returned (.int .i64 (windowI xs n)) ∧ w = w' := by
  have hf := fun s W hR h1 h2 => rfair_any A xs m c n s W hR hl hm hmc hcm hn h1 h2 _ (fair_pure xs n s ha h1)
  have hwl := window_le xs n
  have hwp := window_pos xs n
  rw [hl] at hwl
  generalize windowI xs n = G at *
  clear ha
  go_enter Try.func21, Try.ntmps21
  go_wp2_with fail
  go_loopw [5] (fun v wr => ∃ k : Nat, v = .int .i64 k ∧ 1 ≤ k ∧ k ≤ G ∧ w = wr) (fun v _ => G - (intOf v).toNat)
  case atStart => exact ⟨1, rfl, Nat.le_refl _, hwp, rfl⟩
  case round =>
    obtain ⟨k, rfl, hk1, hkG, rfl⟩ := hrel
    have hcall := hf k w hr hk1 (by omega)
    by_cases hlt : k < G
    · rw [decide_eq_false (by omega)] at hcall
      clear hf
      go_wp2_with fail
      refine hcall.mono ?_
      rintro e w' ⟨rfl, rfl⟩
      go_wp2
      go_roundw
      case rel => exact ⟨k + 1, by go_num, by omega, by omega, by first | rfl | trivial⟩
      case measure => simp [intOf]; omega
    · obtain rfl : k = G := by omega
      rw [decide_eq_true (Nat.le_refl _)] at hcall
      clear hf
      go_wp2_with fail
      refine hcall.mono ?_
      rintro e w' ⟨rfl, rfl⟩
      go_wp2
      go_ret
      exact ⟨rfl, rfl⟩

/-! ### lists that are equal -/
theorem take_succ_eq {xs ys : List Int} {k : Nat} (h1 : k < xs.length) (h2 : k < ys.length) (h : xs.take k = ys.take k) (e : xs.getD k 0 = ys.getD k 0) : xs.take (k + 1) = ys.take (k + 1) := by
  rw [List.take_succ_eq_append_getElem h1, List.take_succ_eq_append_getElem h2, h]
  simp [List.getD, List.getElem?_eq_getElem h1, List.getElem?_eq_getElem h2] at e
  rw [e]
def eqB (xs ys : List Int) : Bool := decide (xs = ys)
theorem eqB_len {xs ys : List Int} (h : xs.length ≠ ys.length) : eqB xs ys = false := by
  unfold eqB; rw [decide_eq_false_iff_not]; rintro rfl; exact h rfl
theorem eqB_at {xs ys : List Int} (k : Nat) (h : xs.getD k 0 ≠ ys.getD k 0) : eqB xs ys = false := by
  unfold eqB; rw [decide_eq_false_iff_not]; rintro rfl; exact h rfl
theorem eqB_all {xs ys : List Int} {k : Nat} (hl : xs.length = ys.length) (hk : k = xs.length) (h : xs.take k = ys.take k) : eqB xs ys = true := by
  unfold eqB; rw [decide_eq_true_eq]; subst hk; rwa [List.take_length, hl, List.take_length] at h
theorem eqB_self (xs : List Int) : eqB xs xs = true := by simp [eqB]
theorem rsame_any (A B : Option Addr) (xs ys : List Int) (n m c d : Nat) (w : World) (hx : Rd (fun _ => True) w A (ints xs)) (hy : Rd (fun _ => True) w B (ints ys)) (h1 : xs.length = n) (h2 : ys.length = m) (hn : n ≤ 1000000) (hm : m ≤ 1000000) (hc : n ≤ c) (hd : m ≤ d) :
    Calls Try.prog 34 #[.slice A n c, .slice B m d] w fun e w' => e = .returned (.bool (eqB xs ys)) ∧ ∃ q, w' = w.drewN q := by
  subst h1 h2
  by_cases hl : xs.length = ys.length
  · have e0 : ((xs.length : Int) == ys.length) = true := by rw [beq_iff_eq]; omega
    go_enter Try.func34, Try.ntmps34
    go_wp2
    go_loopw [5] (fun v wr => ∃ k : Nat, k ≤ xs.length ∧ v = .int .i64 k ∧ xs.take k = ys.take k ∧ ∃ q, wr = w.drewN q) (fun v _ => xs.length - (intOf v).toNat)
    case atStart => exact ⟨0, Nat.zero_le _, rfl, rfl, 0, rfl⟩
    case round =>
      obtain ⟨k, hk, rfl, ht, q, rfl⟩ := hrel
      have HT := Lib.hid ht
      clear ht
      by_cases hlt : k < xs.length
      · obtain ⟨b, o, rfl, _, hb, hcx⟩ := rd_int hx hlt
        obtain ⟨b', o', rfl, _, hb', hcy⟩ := rd_int hy (by omega : k < ys.length)
        obtain ⟨x, hX⟩ : ∃ x, x = xs.getD k 0 := ⟨_, rfl⟩
        obtain ⟨y, hY⟩ : ∃ y, y = ys.getD k 0 := ⟨_, rfl⟩
        rw [← hX] at hcx
        rw [← hY] at hcy
        have HX := Lib.hid hX
        have HY := Lib.hid hY
        clear hX hY
        have i1 : (0 : Int) ≤ k := Int.natCast_nonneg _
        have i2 : (k : Int) < (xs.length : Int) := by omega
        have i4 : (k : Int) < (ys.length : Int) := by omega
        have i3 : (k : Int) ≤ (c : Int) := by omega
        have hl1 : k < ys.length := by omega
        by_cases hxy : x = y
        · have HN : Hid (xs.take (k + 1) = ys.take (k + 1)) := take_succ_eq hlt hl1 HT.out (by rw [← HX.out, ← HY.out, hxy])
          subst hxy
          go_wp2_with (go_quiet (fail))
          go_roundw
          case rel => exact ⟨k + 1, by omega, by go_num, HN.out, ⟨_, rfl⟩⟩
          case measure => simp [intOf]; omega
        · have HN : Hid (eqB xs ys = false) := eqB_at k (by rw [← HX.out, ← HY.out]; exact hxy)
          have e1 : (x == y) = false := by rw [beq_eq_false_iff_ne]; exact hxy
          go_wp2_with (go_quiet (fail))
          go_ret
          exact ⟨by rw [HN.out]; rfl, by first | exact ⟨_, World.drewN_drewN _ _ _⟩ | exact ⟨_, rfl⟩⟩
      · have HN : Hid (eqB xs ys = true) := eqB_all hl (by omega) HT.out
        obtain rfl : k = xs.length := by omega
        go_wp2
        go_ret
        exact ⟨by rw [HN.out]; rfl, by first | exact ⟨_, World.drewN_drewN _ _ _⟩ | exact ⟨_, rfl⟩⟩
  · have e0 : ((xs.length : Int) == ys.length) = false := by rw [beq_eq_false_iff_ne]; omega
    have HN := Lib.hid (eqB_len hl)
    go_enter Try.func34, Try.ntmps34
    go_wp2
    go_ret
    exact ⟨by rw [HN.out]; rfl, 0, rfl⟩
end Go.Proofs.Ytbpkedghnjiehaa
