/-
  Contracts of package modes, third part: Grants, over slices.Clone.
-/
import Derived.Test.YtcnbjpbohhfmoaaDoorModes2
namespace Go.Proofs.YtcnbjpbohhfmoaaDoor
open Go.RowKit

theorem modeInfo : (Tryd.prog.info? 22).map (fun i => (i.zero, i.size, i.bytes)) = some (some (.int .i64 0), 1, 8) := by kernel_rfl

def ClonePost (w : World) (n : Nat) (xs : List Int) (e : Ending) (w' : World) : Prop := ∃ v, e = .returned v ∧ w'.ownsRow w.heap.size 22 1 v n (ints xs) ∧ Below w.heap.size w w'

theorem clone_any (A : Option Addr) (xs : List Int) (n c : Nat) (w : World) (hr : Rd (fun _ => True) w A (ints xs)) (hA : A = none → c = 0) (hl : xs.length = n) (hn : n ≤ 1000000) :
    Calls Tryd.prog 28 #[.slice A n c] w (ClonePost w n xs) := by
  subst hl
  obtain ⟨i0, hi0, hz0, hz1, hz2⟩ := info_parts modeInfo
  have hq := fun W => Lib.run_eql_slice_nil (P := Tryd.prog) W 30 22 A xs.length c 0 0 Tryd.underlying30
  cases A with
  | none =>
    have hx : xs = [] := by
      apply Classical.byContradiction
      intro hne
      obtain ⟨_, _, e, _⟩ := hr (by simpa [ints] using hne)
      cases e
    subst hx
    clear hA hq
    have hq := fun W => Lib.run_eql_slice_nil (P := Tryd.prog) W 30 22 none 0 c 0 0 Tryd.underlying30
    simp only [List.length_nil]
    go_enter Tryd.func28, Tryd.ntmps28
    go_wp2
    go_ret
    exact ⟨_, rfl, own_none _ _ _ _, Below.refl _ _⟩
  | some ad =>
    have hr1 := hr.keep ((Ch.refl (fun _ => False) w).alloc (.cells #[] 22)) (fun _ _ _ e => e)
    have hw1 : w.heap.size ≤ (w.alloc (.cells #[] 22)).heap.size := by simp
    go_enter Tryd.func28, Tryd.ntmps28
    go_wp2_with (at_builtin; refine wpList_append_rd _ rfl _ _ _ rfl w.heap.size 22 i0 _ 1 8 Tryd.underlying30 hi0 hz0 hz1 hz2 rfl (by omega) _ 0 [] rfl (own_new w _ _) (some ad) xs.length c (ints xs) rfl hr1 hA (by simp [ints]) (oneCell_ints _ _) (by unfold maxLen; omega) (by omega) hw1 ?_)
    intro v1 w1 hown1 hch hat
    go_wp2
    go_ret
    refine ⟨v1, rfl, by simpa using hown1, ?_⟩
    exact ((Below.refl _ _).alloc (Nat.le_refl _) _).trans (hch.below (fun j hj e => by have h : w.heap.size = j := (by simpa [Value.ownBlock] using e); omega) hw1)

theorem ownBlock_ne {g : Nat} {v : Value} {base n : Nat} {w : World} {e : TypeId} {size : Nat} {xs : List Value} (h : w.ownsRow base e size v n xs) (hg : g < base) : v.ownBlock ≠ some g := by
  rcases h.2 with ⟨rfl, _⟩ | ⟨g', cap, cur, rfl, hb, _⟩
  · simp [Value.ownBlock]
  · simp [Value.ownBlock]; omega

theorem ownBlock_ge {v : Value} {base n j : Nat} {w : World} {e : TypeId} {size : Nat} {xs : List Value} (h : w.ownsRow base e size v n xs) (hj : v.ownBlock = some j) : base ≤ j := by
  rcases h.2 with ⟨rfl, _⟩ | ⟨g', cap, cur, rfl, hb, _⟩
  · simp [Value.ownBlock] at hj
  · simp [Value.ownBlock] at hj; omega
def GrantsRel (W : World) (held q : List Int) (g : Int) (v0 v2 v13 : Value) (wr : World) : Prop :=
  ∃ (k : Nat) (G : Int), k ≤ q.length ∧ v13 = .int .i64 k ∧ v2 = .int .i64 G ∧ -9223372036854775808 ≤ G ∧ G ≤ 9223372036854775807 ∧ grants held q g = k + grants (held ++ q.take k) (q.drop k) G ∧
    wr.ownsRow W.heap.size 22 1 v0 (held.length + k) (ints (held ++ q.take k)) ∧ Below W.heap.size W wr

theorem gNext_one (G : Int) (h1 : -9223372036854775808 ≤ G) (h2 : G ≤ 9223372036854775807) : (if 4 < wrap64 (G + 1) then 4 else wrap64 (G + 1)) = gNext 1 G := by
  unfold gNext wrap64
  simp only [if_true]
  by_cases e : G = 9223372036854775807
  · subst e
    decide
  · have : (G + 1 + 9223372036854775808) % 18446744073709551616 - 9223372036854775808 = G + 1 := by omega
    rw [this, if_neg e]
    split <;> split <;> omega
theorem gNext_other (x G : Int) (h : x ≠ 1) : gNext x G = G := by unfold gNext; rw [if_neg h]
theorem gNext_bounds (x G : Int) (h1 : -9223372036854775808 ≤ G) (h2 : G ≤ 9223372036854775807) : -9223372036854775808 ≤ gNext x G ∧ gNext x G ≤ 9223372036854775807 := by
  unfold gNext
  split <;> (try split) <;> (try split) <;> omega
theorem grel_step {W w3 : World} {held q : List Int} {g G x : Int} {k : Nat} {v3 : Value} (hlt : k < q.length) (h1 : -9223372036854775808 ≤ G) (h2 : G ≤ 9223372036854775807)
    (hg : grants held q g = k + grants (held ++ q.take k) (q.drop k) G) (hst : grants (held ++ q.take k) (q.drop k) G = if true = true then 1 + grants (held ++ q.take (k + 1)) (q.drop (k + 1)) (gNext x G) else 0)
    (et : held ++ q.take k ++ [x] = held ++ q.take (k + 1)) (hown : w3.ownsRow W.heap.size 22 1 v3 (held.length + k + 1) (ints (held ++ q.take k) ++ [.int .i64 x])) (hb : Below W.heap.size W w3) :
    GrantsRel W held q g v3 (.int .i64 (gNext x G)) (.int .i64 ((k : Int) + 1)) w3 := by
  obtain ⟨b1, b2⟩ := gNext_bounds x G h1 h2
  refine ⟨k + 1, gNext x G, hlt, rfl, rfl, b1, b2, by rw [hg, hst, if_pos rfl]; omega, ?_, hb⟩
  have e : ints (held ++ q.take k) ++ [.int .i64 x] = ints (held ++ q.take (k + 1)) := by rw [← et]; simp [ints]
  rw [e] at hown
  exact hown

set_option maxHeartbeats 1000000 in
theorem grants_any (A A2 : Option Addr) (held q : List Int) (n c n2 c2 : Nat) (g : Int) (w : World) (ht : Tab w) (hr : Rd (fun _ => True) w A (ints held)) (hA : A = none → c = 0) (hl : held.length = n) (hn : n ≤ 1000)
    (hr2 : Rd (fun _ => True) w A2 (ints q)) (hl2 : q.length = n2) (hn2 : n2 ≤ 1000) (hg : -9223372036854775808 ≤ g) (hg2 : g ≤ 9223372036854775807) :
    Calls Tryd.prog 21 #[.slice A n c, .slice A2 n2 c2, .int .i64 g] w fun e w' => e = .returned (.int .i64 (grants held q g)) ∧ Below w.heap.size w w' := by
  subst hl hl2
  obtain ⟨i0, hi0, hz0, hz1, hz2⟩ := info_parts modeInfo
  go_enter Tryd.func21, Tryd.ntmps21
  go_wp2_with fail
  refine (clone_any A held held.length c _ hr hA rfl (by omega)).mono ?_
  rintro e w1 ⟨v1, rfl, hown1, hb1⟩
  go_wp2_with fail
  go_loopw [0, 2, 13] (GrantsRel w held q g) (fun _ _ v _ => q.length - (intOf v).toNat)
  case atStart => exact ⟨0, g, Nat.zero_le _, rfl, rfl, hg, hg2, by simp, by simpa using hown1, hb1⟩
  case round =>
    obtain ⟨k, G, hk, rfl, rfl, hG1, hG2, hgr, hown, hb⟩ := hrel
    have ht' := ht.below hb
    have hr2' := hr2.keep (Ch.of_below hb (fun _ => False)) (fun _ _ _ e => e)
    obtain ⟨A3, c3, rfl, hc3, hA3⟩ := own_slice hown
    have hr3 := (Rd.of_own hown).mono (G' := fun _ => True) (fun _ _ _ => trivial)
    have HG := Lib.hid hgr
    clear hgr
    by_cases hlt : k < q.length
    · obtain ⟨b, o, rfl, _, hbs, hcell⟩ := rd_int hr2' hlt
      obtain ⟨x, hx⟩ : ∃ x, x = q.getD k 0 := ⟨_, rfl⟩
      rw [← hx] at hcell
      have HX := Lib.hid hx
      clear hx
      have e1 : decide ((k : Int) < (q.length : Int) - 1) = decide (k + 1 < q.length) := by rw [decide_eq_decide]; omega
      have hgo := goes_any x A3 (held ++ q.take k) (held.length + k) c3 G (decide ((k : Int) < (q.length : Int) - 1)) wr ht' hr3 (by simp; omega) (by omega)
      have hst := grants_step q (held ++ q.take k) G k hlt
      rw [← HX.out, ← e1] at hst
      have et : held ++ q.take k ++ [x] = held ++ q.take (k + 1) := by rw [take_snoc q k hlt, ← HX.out, List.append_assoc]
      rw [et] at hst
      clear e1
      cases hgb : gB x (held ++ q.take k) G (decide ((k : Int) < (q.length : Int) - 1)) with
      | false =>
        rw [hgb] at hgo hst
        have HGO := Lib.hid hgo
        have HF : Hid (grants held q g = k) := by
          show grants held q g = k
          rw [HG.out, hst]; rfl
        clear hgo hst hgb et
        go_wp2_with (go_at_call 19; refine HGO.out.mono ?_; rintro e w' ⟨rfl, hb2⟩)
        go_ret
        exact ⟨by rw [HF.out]; rfl, by (repeat' (first | (with_reducible exact Below.refl _ _) | (with_reducible assumption) | (with_reducible refine Below.alloc ?_ ?_ _) | (with_reducible refine Below.drew ?_) | (with_reducible refine below_drewN ?_ _) | (with_reducible refine Below.setCell ?_ ?_ _) | (with_reducible refine Below.trans ?_ (Below.mono (by assumption) ?_)) | (first | go_size | (with_reducible exact Below.size (by assumption)) | (with_reducible exact Nat.le_trans (Below.size (by assumption)) (Below.size (by assumption))) | (refine Nat.le_trans (Below.size (by assumption)) ?_; go_size))))⟩
      | true =>
        rw [hgb] at hgo hst
        have HGO := Lib.hid hgo
        have HST := Lib.hid hst
        have HET := Lib.hid et
        clear hgo hst hgb et
        have hbsz := hb.size
        go_wp2_with (first | (go_at_call 19; refine HGO.out.mono ?_; rintro e w' ⟨rfl, hb2⟩) | (at_builtin; refine wpList_append_rd _ rfl _ _ _ rfl w.heap.size 22 i0 _ 1 8 Tryd.underlying30 hi0 hz0 hz1 hz2 rfl (by omega) _ _ _ rfl (own_keep (own_keep hown (Ch.of_below hb2 (fun _ => False)) (fun _ _ _ e => e)) ((Ch.refl (fun _ => False) _).alloc _) (fun _ _ _ e => e)) (some ⟨_, 0, none⟩) 1 1 [.int .i64 x] rfl (Rd.of_blk (G := fun _ => True) (Blk.new _ _ [.int .i64 x]) (List.prefix_refl _) trivial) (fun h => by cases h) rfl (by simp [Value.oneCell']) (by unfold maxLen; omega) (by omega) (by have := Below.size hb2; simp; omega) ?_))
        intro v3 w3 hown3 hch3 hat3
        have hb3 : Below w.heap.size w w3 := ((hb.trans (hb2.mono hb.size)).alloc (Nat.le_trans hb.size hb2.size) _).trans (hch3.below (fun j hj e => by
          have h1 := ownBlock_ge hown e
          exact h1) (by have := Below.size hb2; simp; omega))
        clear hch3 hat3
        by_cases hx1 : x = 1
        · have HR := Lib.hid (grel_step (x := x) hlt hG1 hG2 HG.out HST.out HET.out hown3 hb3)
          subst hx1
          have HE := Lib.hid (gNext_one G hG1 hG2)
          clear hown3 hb3 hown hown1
          go_wp2
          exact ⟨by rw [HE.out]; exact HR.out, by simp [intOf]; omega⟩
        · have HR := Lib.hid (grel_step (x := x) hlt hG1 hG2 HG.out HST.out HET.out hown3 hb3)
          have HE := Lib.hid (gNext_other x G hx1)
          have hx2 : (x == 1) = false := by simpa using hx1
          clear hown3 hb3 hown hown1 hx1
          go_wp2
          exact ⟨by have := HR.out; rw [HE.out] at this; exact this, by simp [intOf]; omega⟩
    · obtain rfl : k = q.length := by omega
      have HF : Hid (grants held q g = q.length) := by
        show grants held q g = q.length
        rw [HG.out, List.drop_length]; simp [grants]
      clear hown hown1
      go_wp2
      go_ret
      exact ⟨by rw [HF.out]; rfl, hb⟩
end Go.Proofs.YtcnbjpbohhfmoaaDoor
