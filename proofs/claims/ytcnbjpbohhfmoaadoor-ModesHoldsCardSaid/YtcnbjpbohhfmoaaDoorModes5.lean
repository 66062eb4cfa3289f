/-
  The contract of the reference's Grants.
-/
import Derived.Test.YtcnbjpbohhfmoaaDoorModes4
namespace Go.Proofs.YtcnbjpbohhfmoaaDoor
open Go.RowKit

theorem gNext_over (G : Int) (h1 : -9223372036854775808 ≤ G) (h2 : G ≤ 9223372036854775807) (h : 4 < wrap64 (G + 1)) : gNext 1 G = 4 := by
  rw [← gNext_one G h1 h2, if_pos h]
theorem gNext_under (G : Int) (h1 : -9223372036854775808 ≤ G) (h2 : G ≤ 9223372036854775807) (h : ¬ 4 < wrap64 (G + 1)) : gNext 1 G = wrap64 (G + 1) := by
  rw [← gNext_one G h1 h2, if_neg h]

set_option maxHeartbeats 1000000 in
theorem rgrants_any (A A2 : Option Addr) (held q : List Int) (n c n2 c2 : Nat) (g : Int) (w : World) (hr : Rd (fun _ => True) w A (ints held)) (hA : A = none → c = 0) (hl : held.length = n) (hn : n ≤ 1000)
    (hr2 : Rd (fun _ => True) w A2 (ints q)) (hl2 : q.length = n2) (hn2 : n2 ≤ 1000) (hg : -9223372036854775808 ≤ g) (hg2 : g ≤ 9223372036854775807) :
    Calls Tryd.prog 22 #[.slice A n c, .slice A2 n2 c2, .int .i64 g] w fun e w' => e = .returned (.int .i64 (grants held q g)) ∧ Below w.heap.size w w' := by
  subst hl hl2
  obtain ⟨i0, hi0, hz0, hz1, hz2⟩ := info_parts modeInfo
  go_enter Tryd.func22, Tryd.ntmps22
  go_wp2_with (at_builtin; refine wpList_append_rd _ rfl _ _ _ rfl w.heap.size 22 i0 _ 1 8 Tryd.underlying30 hi0 hz0 hz1 hz2 rfl (by omega) _ 0 [] rfl (own_none w _ _ _) A held.length c (ints held) rfl hr hA (by simp [ints]) (oneCell_ints _ _) (by unfold maxLen; omega) (by omega) (Nat.le_refl _) ?_)
  intro v1 w1 hown1 hch hat
  have hb1 : Below w.heap.size w w1 := hch.belowSelf (fun j hj e => by simp [Value.ownBlock] at e)
  clear hch hat
  go_wp2
  go_loopw [2, 7, 8] (fun v2 v7 v8 wr => GrantsRel w held q g v7 v2 v8 wr) (fun _ _ v _ => q.length - (intOf v).toNat)
  case atStart => exact ⟨0, g, Nat.zero_le _, rfl, rfl, hg, hg2, by simp, by simpa using hown1, hb1⟩
  case round =>
    obtain ⟨k, G, hk, rfl, rfl, hG1, hG2, hgr, hown, hb⟩ := hrel
    obtain ⟨A3, c3, rfl, hc3, hA3⟩ := own_slice hown
    have hr3 := (Rd.of_own hown).mono (G' := fun _ => True) (fun _ _ _ => trivial)
    have HG := Lib.hid hgr
    clear hgr
    by_cases hlt : k < q.length
    · obtain ⟨b, o, rfl, _, hbs, hcell0⟩ := rd_int hr2 hlt
      have hcell : wr.cell? ⟨b, o + k, none⟩ = some (.int .i64 (q.getD k 0)) := (hb.cell (p := ⟨b, o + k, none⟩) hbs).trans hcell0
      obtain ⟨x, hx⟩ : ∃ x, x = q.getD k 0 := ⟨_, rfl⟩
      rw [← hx] at hcell hcell0
      have HX := Lib.hid hx
      clear hx
      have e1 : decide ((k : Int) + 1 < (q.length : Int)) = decide (k + 1 < q.length) := by rw [decide_eq_decide]; omega
      have hgo := rgoes_any x A3 (held ++ q.take k) (held.length + k) c3 G (decide ((k : Int) + 1 < (q.length : Int))) wr hr3 (by simp; omega) (by omega)
      have hst := grants_step q (held ++ q.take k) G k hlt
      rw [← HX.out, ← e1] at hst
      have et : held ++ q.take k ++ [x] = held ++ q.take (k + 1) := by rw [take_snoc q k hlt, ← HX.out, List.append_assoc]
      rw [et] at hst
      clear e1
      cases hgb : gB x (held ++ q.take k) G (decide ((k : Int) + 1 < (q.length : Int))) with
      | false =>
        rw [hgb] at hgo hst
        have HGO := Lib.hid hgo
        have HF : Hid (grants held q g = k) := by
          show grants held q g = k
          rw [HG.out, hst]; rfl
        clear hgo hst hgb et
        go_wp2_with (go_at_call 20; refine HGO.out.mono ?_; rintro e w' ⟨rfl, rfl⟩)
        go_ret
        exact ⟨by rw [HF.out]; rfl, by (repeat' (first | (with_reducible exact Below.refl _ _) | (with_reducible assumption) | (with_reducible refine Below.alloc ?_ ?_ _) | (with_reducible refine Below.drew ?_) | (with_reducible refine below_drewN ?_ _) | (with_reducible refine Below.setCell ?_ ?_ _) | (with_reducible refine Below.trans ?_ (Below.mono (by assumption) ?_)) | (first | go_size | (with_reducible exact Below.size (by assumption)) | (with_reducible exact Nat.le_trans (Below.size (by assumption)) (Below.size (by assumption))) | (refine Nat.le_trans (Below.size (by assumption)) ?_; go_size))))⟩
      | true =>
        rw [hgb] at hgo hst
        have HGO := Lib.hid hgo
        have HST := Lib.hid hst
        have HET := Lib.hid et
        clear hgo hst hgb et
        have hbsz := hb.size
        have hb0 := Below.refl wr.heap.size wr
        go_wp2_with (first | (go_at_call 20; refine HGO.out.mono ?_; rintro e w' ⟨rfl, rfl⟩) | (at_builtin; refine wpList_append_rd _ rfl _ _ _ rfl w.heap.size 22 i0 _ 1 8 Tryd.underlying30 hi0 hz0 hz1 hz2 rfl (by omega) _ _ _ rfl (own_keep (own_keep hown (Ch.of_below hb0 (fun _ => False)) (fun _ _ _ e => e)) ((Ch.refl (fun _ => False) _).alloc _) (fun _ _ _ e => e)) (some ⟨_, 0, none⟩) 1 1 [.int .i64 x] rfl (Rd.of_blk (G := fun _ => True) (Blk.new _ _ [.int .i64 x]) (List.prefix_refl _) trivial) (fun h => by cases h) rfl (by simp [Value.oneCell']) (by unfold maxLen; omega) (by omega) (by have := Below.size hb0; simp; omega) ?_))
        intro v3 w3 hown3 hch3 hat3
        have hb3 : Below w.heap.size w w3 := (hb.alloc hb.size _).trans (hch3.below (fun j hj e => ownBlock_ge hown e) (by simp; omega))
        have hcell3 : w3.cell? ⟨b, o + k, none⟩ = some (.int .i64 x) := (hb3.cell (p := ⟨b, o + k, none⟩) hbs).trans hcell0
        clear hch3 hat3
        by_cases hx1 : x = 1
        · have HR := Lib.hid (grel_step (x := x) hlt hG1 hG2 HG.out HST.out HET.out hown3 hb3)
          subst hx1
          by_cases h4 : 4 < wrap64 (G + 1)
          · have HE := Lib.hid (gNext_over G hG1 hG2 h4)
            clear hown3 hb3 hown hown1
            go_wp2
            go_roundw
            case rel => have := HR.out; rw [HE.out] at this; exact this
            case measure => simp [intOf]; omega
          · have HE := Lib.hid (gNext_under G hG1 hG2 h4)
            clear hown3 hb3 hown hown1
            go_wp2
            go_roundw
            case rel => have := HR.out; rw [HE.out] at this; exact this
            case measure => simp [intOf]; omega
        · have HR := Lib.hid (grel_step (x := x) hlt hG1 hG2 HG.out HST.out HET.out hown3 hb3)
          have HE := Lib.hid (gNext_other x G hx1)
          have hx2 : (x == 1) = false := by simpa using hx1
          clear hown3 hb3 hown hown1 hx1
          go_wp2
          go_roundw
          case rel => have := HR.out; rw [HE.out] at this; exact this
          case measure => simp [intOf]; omega
    · obtain rfl : k = q.length := by omega
      have HF : Hid (grants held q g = q.length) := by
        show grants held q g = q.length
        rw [HG.out, List.drop_length]; simp [grants]
      clear hown hown1
      go_wp2
      go_ret
      exact ⟨by rw [HF.out]; rfl, hb⟩
end Go.Proofs.YtcnbjpbohhfmoaaDoor
