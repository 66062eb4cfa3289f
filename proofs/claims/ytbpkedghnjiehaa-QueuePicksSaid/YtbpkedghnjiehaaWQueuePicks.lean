/-
  The walk of QueuePicks: it returns true at every input.
-/
import Derived.Test.YtbpkedghnjiehaaK03b
import Derived.Test.YtbpkedghnjiehaaRQueue3
import Derived.Deep.DeepCutAuto
namespace Go.Proofs.Ytbpkedghnjiehaa
open Go.RowKit
namespace QueuePicks
theorem wf_i64 {x : Int} (h : (Lit.int .i64 x).wf = true) : -9223372036854775808 ≤ x ∧ x ≤ 9223372036854775807 := by
  simp [Lit.wf, IntKind.min, IntKind.max, IntKind.signed, IntKind.bits] at h
  omega
theorem own_lt {w : World} {base n k : Nat} {e : TypeId} {size : Nat} {v : Value} {xs : List Value} (h : w.ownsRow base e size v n xs) (hk : v.ownBlock = some k) : k < w.heap.size := by
  rcases h.2 with ⟨rfl, _⟩ | ⟨g, cap, cur, rfl, _, hh, _⟩
  · cases hk
  · injection hk with hk
    subst hk
    rcases Nat.lt_or_ge g w.heap.size with hl | hl
    · exact hl
    · rw [Array.getElem?_eq_none hl] at hh; cases hh
/-- what stands at a round's head: the picker, what it has picked, and the list of that -/
structure PSt (W wr : World) (N : Nat) (size : Int) (mds : List Int) (b g c : Nat) (v : Value) : Prop where
  pk : PkAt wr b g c size mds.length (ageL mds N)
  own : wr.ownsRow W.heap.size 3 1 v mds.length (ints mds)
  nb : v.ownBlock ≠ some b
  ng : v.ownBlock ≠ some g
  bW : W.heap.size ≤ b
  gW : W.heap.size ≤ g
  below : Below W.heap.size W wr
theorem PSt.step {W wr w' : World} {N : Nat} {size : Int} {mds : List Int} {b g c : Nat} {v : Value} (h : PSt W wr N size mds b g c v) (hb : Below wr.heap.size wr w') : PSt W w' N size mds b g c v :=
  ⟨h.pk.below hb, own_keep h.own (Ch.of_below hb (fun _ => False)) (fun _ _ _ e => e), h.nb, h.ng, h.bW, h.gW, h.below.trans (hb.mono h.below.size)⟩
theorem lnext_pick (b g c : Nat) (size : Int) (picks : Nat) (ag : List Int) (n d0 R : Nat) (want : Int) (w : World) (h : PkAt w b g c size picks ag) (hn : ag.length = n) (hm : n ≤ 19) (hp : picks ≤ 1000000) (w0 : 0 ≤ want) (w1 : want < n) (hF : First ag n d0)
    (hR : (if urgB ag n size then (d0 : Int) else want) = R) :
    Calls Try.prog 31 #[.pointer (some ⟨b, 0, none⟩), .int .i64 want, .int .i64 R, .int .i64 0] w fun e w' => e = .returned (.bool true) ∧ (PkAt w' b g c size (picks + 1) ((ag.map (· + 1)).set R 0) ∧ Ch (fun j => j = b ∨ j = g) w w') := by
  subst hn
  refine lnext_of _ _ _ _ w ((pnext_ok b g c size picks ag ag.length want w h rfl hm hp w0 w1).mono ?_)
  rintro e w' ⟨d1, p, hF1, hpp, rfl, k1, k2⟩
  have : d1 = d0 := hF1.eq hF
  subst this
  rw [hR] at hpp
  obtain rfl : p = R := by omega
  exact ⟨rfl, k1, k2⟩
theorem zeros_age (N : Nat) : zeros N = ageL [] N := by rw [ageL_nil]; rfl
set_option maxRecDepth 100000 in
set_option maxHeartbeats 8000000 in
theorem walk (n : Int) (_wn : (Lit.int .i64 n).wf = true) (s : Int) (_ws : (Lit.int .i64 s).wf = true) (A : Option Addr) (k c0 : Nat) (xs : List Int) (l : xs.length = k) (_mk : k ≤ c0) (_b : c0 ≤ 9223372036854775807) (_z : A = none → c0 = 0)
    (at' : Int) (_wa : (Lit.int .i64 at').wf = true) (w : World) (r : Rd (fun b => b < w.heap.size) w A (xs.map (Value.int .i64))) (_y : ∀ x ∈ xs, (Lit.int .i64 x).wf = true) :
    Calls Try.prog 8 #[.int .i64 n, .int .i64 s, .slice A k c0, .int .i64 at'] w fun e w' => e = .returned (.bool true) ∧ Below w.heap.size w w' := by
  have hr : Rd (fun _ => True) w A (ints xs) := r.mono (fun _ _ _ => trivial)
  have HL := Lib.hid l
  clear r l
  by_cases h1 : n < 1
  · have d1 : decide (n < 1) = true := decide_eq_true h1
    go_enter Try.func8, Try.ntmps8
    go_wp2_with (first | (go_at_call 10; refine (known_ok _).mono ?_; rintro e w' ⟨rfl, hkb⟩))
    go_ret
    exact ⟨rfl, by (repeat' (first | (with_reducible exact Below.refl _ _) | (with_reducible assumption) | (with_reducible refine Below.alloc ?_ ?_ _) | (with_reducible refine Below.drew ?_) | (with_reducible refine below_drewN ?_ _) | (with_reducible refine Below.setCell ?_ ?_ _) | (with_reducible refine Below.trans ?_ (Below.mono (by assumption) ?_)) | (first | go_size | (with_reducible exact Below.size (by assumption)) | (with_reducible exact Nat.le_trans (Below.size (by assumption)) (Below.size (by assumption))) | (refine Nat.le_trans (Below.size (by assumption)) ?_; go_size))))⟩
  have d1 : decide (n < 1) = false := decide_eq_false h1
  by_cases h2 : 8 < n
  · have d2 : decide (8 < n) = true := decide_eq_true h2
    go_enter Try.func8, Try.ntmps8
    go_wp2_with (first | (go_at_call 10; refine (known_ok _).mono ?_; rintro e w' ⟨rfl, hkb⟩))
    go_ret
    exact ⟨rfl, by (repeat' (first | (with_reducible exact Below.refl _ _) | (with_reducible assumption) | (with_reducible refine Below.alloc ?_ ?_ _) | (with_reducible refine Below.drew ?_) | (with_reducible refine below_drewN ?_ _) | (with_reducible refine Below.setCell ?_ ?_ _) | (with_reducible refine Below.trans ?_ (Below.mono (by assumption) ?_)) | (first | go_size | (with_reducible exact Below.size (by assumption)) | (with_reducible exact Nat.le_trans (Below.size (by assumption)) (Below.size (by assumption))) | (refine Nat.le_trans (Below.size (by assumption)) ?_; go_size))))⟩
  have d2 : decide (8 < n) = false := decide_eq_false h2
  by_cases h3 : s < n
  · have d3 : decide (s < n) = true := decide_eq_true h3
    go_enter Try.func8, Try.ntmps8
    go_wp2_with (first | (go_at_call 10; refine (known_ok _).mono ?_; rintro e w' ⟨rfl, hkb⟩))
    go_ret
    exact ⟨rfl, by (repeat' (first | (with_reducible exact Below.refl _ _) | (with_reducible assumption) | (with_reducible refine Below.alloc ?_ ?_ _) | (with_reducible refine Below.drew ?_) | (with_reducible refine below_drewN ?_ _) | (with_reducible refine Below.setCell ?_ ?_ _) | (with_reducible refine Below.trans ?_ (Below.mono (by assumption) ?_)) | (first | go_size | (with_reducible exact Below.size (by assumption)) | (with_reducible exact Nat.le_trans (Below.size (by assumption)) (Below.size (by assumption))) | (refine Nat.le_trans (Below.size (by assumption)) ?_; go_size))))⟩
  have d3 : decide (s < n) = false := decide_eq_false h3
  by_cases h4 : 30 < s
  · have d4 : decide (30 < s) = true := decide_eq_true h4
    go_enter Try.func8, Try.ntmps8
    go_wp2_with (first | (go_at_call 10; refine (known_ok _).mono ?_; rintro e w' ⟨rfl, hkb⟩))
    go_ret
    exact ⟨rfl, by (repeat' (first | (with_reducible exact Below.refl _ _) | (with_reducible assumption) | (with_reducible refine Below.alloc ?_ ?_ _) | (with_reducible refine Below.drew ?_) | (with_reducible refine below_drewN ?_ _) | (with_reducible refine Below.setCell ?_ ?_ _) | (with_reducible refine Below.trans ?_ (Below.mono (by assumption) ?_)) | (first | go_size | (with_reducible exact Below.size (by assumption)) | (with_reducible exact Nat.le_trans (Below.size (by assumption)) (Below.size (by assumption))) | (refine Nat.le_trans (Below.size (by assumption)) ?_; go_size))))⟩
  have d4 : decide (30 < s) = false := decide_eq_false h4
  by_cases h5 : 60 < k
  · have d5 : decide (60 < (k : Int)) = true := decide_eq_true (by omega)
    go_enter Try.func8, Try.ntmps8
    go_wp2_with (first | (go_at_call 10; refine (known_ok _).mono ?_; rintro e w' ⟨rfl, hkb⟩))
    go_ret
    exact ⟨rfl, by (repeat' (first | (with_reducible exact Below.refl _ _) | (with_reducible assumption) | (with_reducible refine Below.alloc ?_ ?_ _) | (with_reducible refine Below.drew ?_) | (with_reducible refine below_drewN ?_ _) | (with_reducible refine Below.setCell ?_ ?_ _) | (with_reducible refine Below.trans ?_ (Below.mono (by assumption) ?_)) | (first | go_size | (with_reducible exact Below.size (by assumption)) | (with_reducible exact Nat.le_trans (Below.size (by assumption)) (Below.size (by assumption))) | (refine Nat.le_trans (Below.size (by assumption)) ?_; go_size))))⟩
  have d5 : decide (60 < (k : Int)) = false := decide_eq_false (by omega)
  obtain ⟨N, rfl⟩ : ∃ N : Nat, n = N := ⟨n.toNat, by omega⟩
  have hN1 : 1 ≤ N := by omega
  have hN8 : N ≤ 8 := by omega
  have hs1 : (N : Int) ≤ s := by omega
  have hs2 : s ≤ 30 := by omega
  have hk : k ≤ 60 := by omega
  have ht : thrB N = true := by simp [thrB]; omega
  obtain ⟨i0, hi0, hz0, hz1, hz2⟩ := info_parts intInfo
  clear h1 h2 h3 h4 h5
  go_enter Try.func8, Try.ntmps8
  go_wp2_with fail
  refine (pnew_ok N s w ht hs1 (by omega)).mono ?_
  rintro e w1 ⟨b, g, c, rfl, hP, hbW, hgW, hB⟩
  have hst : PSt w w1 N s [] b g c (.slice none 0 0) := ⟨by rw [← zeros_age]; exact hP, own_none _ _ _ _, (fun e => by cases e), (fun e => by cases e), hbW, hgW, hB⟩
  clear hP hbW hgW hB d1 d2 d3 d4
  go_wp2_with fail
  go_loopw [9, 11, 52] (fun v9 v11 v52 wr => ∃ (i : Nat) (mds : List Int) (b g c : Nat), v52 = .int .i64 i ∧ i ≤ k ∧ mds.length ≤ i ∧ v9 = .pointer (some ⟨b, 0, none⟩) ∧ PSt w wr N s mds b g c v11) (fun _ _ v _ => k - (intOf v).toNat)
  case atStart => exact ⟨0, [], b, g, c, rfl, Nat.zero_le _, Nat.le_refl _, rfl, hst⟩
  case round =>
    clear hst
    obtain ⟨i, mds, b, g, c, rfl, hi, hml, rfl, hS⟩ := hrel
    by_cases hlt : i < k
    · obtain ⟨bA, oA, rfl, _, hbs, hcell⟩ := rd_int (hr.keep (Ch.of_below hS.below (fun _ => False)) (fun _ _ _ e => e)) (show i < xs.length by rw [HL.out]; exact hlt)
      generalize xs.getD i 0 = x at hcell
      have i1 : (0 : Int) ≤ i := Int.natCast_nonneg _
      have i2 : (i : Int) < k := by omega
      have i3 : (i : Int) < c0 := by omega
      go_upto_if 59 with fail
      go_cut [9] (fun s9 wx => ∃ b g c : Nat, s9 = .pointer (some ⟨b, 0, none⟩) ∧ PSt w wx N s mds b g c u11)
      case first =>
        by_cases hat : (i : Int) = at'
        · have e1 : ((i : Int) == at') = true := by rw [beq_iff_eq]; exact hat
          have hagl := ageL_length mds N
          clear hat
          go_wp2_with fail
          refine (pcopy_ok b g c s mds.length (ageL mds N) wr hS.pk).mono ?_
          rintro e w2 ⟨b2, g2, c2, rfl, hP2, hb2, hg2, hB2⟩
          have hS2 := hS.step hB2
          have hl0 := hS.pk.lt
          have hcall := pnext_ok b g c s mds.length (ageL mds N) N 0 w2 hS2.pk hagl (by omega) (by omega) (by omega) (by omega)
          clear hagl
          go_wp2_with fail
          refine hcall.mono ?_
          rintro e w3 ⟨d0, p, hq1, hq2, rfl, hq3, hC⟩
          clear hq1 hq2 hq3
          have hB3 : Below w.heap.size w w3 := hS2.below.trans (hC.below (fun j _ e => by have := hS.bW; have := hS.gW; omega) hS2.below.size)
          have hfin : PSt w w3 N s mds b2 g2 c2 u11 := ⟨hP2.keep hC (by omega) (by omega), own_keep hS2.own hC (fun j hj _ e => by
              rcases e with rfl | rfl
              · exact hS.nb hj
              · exact hS.ng hj), (fun e => by have := own_lt hS.own e; omega), (fun e => by have := own_lt hS.own e; omega), by have := hS.below.size; omega, by have := hS.below.size; omega, hB3⟩
          have HFIN := Lib.hid hfin
          clear hfin hC hB3 hcall hS2 hP2 hS
          go_wp2_with fail
          go_meet
          exact ⟨b2, g2, c2, rfl, HFIN.out⟩
        · have e1 : ((i : Int) == at') = false := by rw [beq_eq_false_iff_ne]; exact hat
          clear hat
          go_wp2_with fail
          go_meet
          exact ⟨b, g, c, rfl, hS⟩
      case rest =>
        clear hS hcell
        obtain ⟨b, g, c, rfl, hS⟩ := hcut
        have hagl := ageL_length mds N
        by_cases hx : x < 0 ∨ (N : Int) ≤ x
        · have hcall := lnext_of (Q := fun w' => wc = w') (some ⟨b, 0, none⟩) x 0 2 wc (pnext_bad b g c s mds.length (ageL mds N) x wc hS.pk (by rw [hagl]; exact hx))
          by_cases h1 : x < 0
          · have d1 : decide (x < 0) = true := decide_eq_true h1
            clear hx hagl
            go_wp2_with fail
            refine hcall.mono ?_
            rintro e w' ⟨rfl, rfl⟩
            go_wp2_with fail
            go_roundw
            case rel => exact ⟨i + 1, mds, b, g, c, by go_num, by omega, by omega, rfl, hS⟩
            case measure => simp [intOf]; omega
          · have d1 : decide (x < 0) = false := decide_eq_false h1
            have d2 : decide ((N : Int) ≤ x) = true := decide_eq_true (by omega)
            clear hx hagl
            go_wp2_with fail
            refine hcall.mono ?_
            rintro e w' ⟨rfl, rfl⟩
            go_wp2_with fail
            go_roundw
            case rel => exact ⟨i + 1, mds, b, g, c, by go_num, by omega, by omega, rfl, hS⟩
            case measure => simp [intOf]; omega
        · have d1 : decide (x < 0) = false := decide_eq_false (by omega)
          have d2 : decide ((N : Int) ≤ x) = false := decide_eq_false (by omega)
          have hx0 : 0 ≤ x := by omega
          have hx1 : x < N := by omega
          obtain ⟨d0, hF⟩ := first_ex (ageL mds N) N hN1
          obtain ⟨R, hR⟩ : ∃ R : Nat, (if urgB (ageL mds N) N s then (d0 : Int) else x) = R := by
            split
            · exact ⟨d0, rfl⟩
            · exact ⟨x.toNat, by omega⟩
          have hRN : R < N := by
            have := hF.lt
            split at hR <;> omega
          obtain ⟨AM, cM, rfl, hcM, hzM⟩ := own_slice hS.own
          have hrm : Rd (fun _ => True) wc AM (ints mds) := (Rd.of_own hS.own).mono (fun _ _ _ => trivial)
          have hrn := rnext_any AM mds mds.length cM N d0 s x wc hrm rfl (by omega) hcM (by omega) hF (by omega) (by omega)
          rw [hR] at hrn
          have hln := lnext_pick b g c s mds.length (ageL mds N) N d0 R x wc hS.pk hagl (by omega) (by omega) hx0 hx1 hF hR
          rw [← ageL_pick mds N R] at hln
          have hbW := hS.bW
          have hgW := hS.gW
          have hlt0 := hS.pk.lt
          clear hx hR hF hagl d0
          go_wp2_with fail
          refine hrn.mono ?_
          rintro e w' ⟨rfl, rfl⟩
          go_wp2_with fail
          refine hln.mono ?_
          rintro e w3 ⟨rfl, hP3, hC⟩
          have hB3 : Below w.heap.size w w3 := hS.below.trans (hC.below (fun j _ e => by omega) hS.below.size)
          have hown : w3.ownsRow w.heap.size 3 1 (.slice AM mds.length cM) mds.length (ints mds) := own_keep hS.own hC (fun j hj _ e => by
              rcases e with rfl | rfl
              · exact hS.nb hj
              · exact hS.ng hj)
          have hnb := hS.nb
          have hng := hS.ng
          have hbr := Below.refl w3.heap.size w3
          have hbz := hB3.size
          have hsz3 := hC.size
          clear hS hrn hln hrm hC
          go_wp2_with ((at_builtin; refine wpList_append_rd _ rfl _ _ _ rfl w.heap.size 3 i0 _ 1 8 Try.underlying28 hi0 hz0 hz1 hz2 rfl (by omega) _ _ _ rfl (own_keep (own_keep hown (Ch.of_below hbr (fun _ => False)) (fun _ _ _ e => e)) ((Ch.refl (fun _ => False) _).alloc _) (fun _ _ _ e => e)) (some ⟨_, 0, none⟩) 1 1 [.int .i64 (R : Int)] rfl (Rd.of_blk (G := fun _ => True) (Blk.new _ _ [.int .i64 (R : Int)]) (List.prefix_refl _) trivial) (fun h => by cases h) rfl (by simp [Value.oneCell']) (by unfold maxLen; omega) (by omega) (by have := Below.size hbr; simp; omega) ?_))
          intro v5 w5 hown5 hch5 hat5
          have hB5 : Below w3.heap.size w3 (w3.alloc (.cells #[.int .i64 (R : Int)] 3)) := by (repeat' (first | (with_reducible exact Below.refl _ _) | (with_reducible assumption) | (with_reducible refine Below.alloc ?_ ?_ _) | (with_reducible refine Below.drew ?_) | (with_reducible refine below_drewN ?_ _) | (with_reducible refine Below.setCell ?_ ?_ _) | (with_reducible refine Below.trans ?_ (Below.mono (by assumption) ?_)) | (first | go_size | (with_reducible exact Below.size (by assumption)) | (with_reducible exact Nat.le_trans (Below.size (by assumption)) (Below.size (by assumption))) | (refine Nat.le_trans (Below.size (by assumption)) ?_; go_size))))
          have hch : Ch (fun j => (Value.slice AM mds.length cM).ownBlock = some j) w3 w5 := (Ch.of_below hB5 _).trans hch5 (fun _ _ e => e)
          have hP5 : PkAt w5 b g c s (mds.length + 1) (ageL (mds ++ [(R : Int)]) N) := hP3.keep hch (fun e => hnb e) (fun e => hng e)
          have hb5 : Below w.heap.size w w5 := hB3.trans (hch.below (fun j hj e => ownBlock_ge hown e) hB3.size)
          have hml5 : (mds ++ [(R : Int)]).length = mds.length + 1 := by simp
          have hst5 : PSt w w5 N s (mds ++ [(R : Int)]) b g c v5 := ⟨by rw [hml5]; exact hP5, by rw [hml5]; simpa [ints] using hown5, fun e => by
              rcases hat5 with h | h <;> rw [h] at e
              · exact hnb e
              · injection e with e; omega, fun e => by
              rcases hat5 with h | h <;> rw [h] at e
              · exact hng e
              · injection e with e; omega, hbW, hgW, hb5⟩
          obtain ⟨A5, c5, rfl, hc5, _⟩ := own_slice hown5
          have hrm5 : Rd (fun _ => True) w5 A5 (ints (mds ++ [(R : Int)])) := by
            have := hst5.own
            rw [hml5] at this
            exact (Rd.of_own this).mono (fun _ _ _ => trivial)
          have hpp := ppicks_ok b g c s (mds.length + 1) (ageL (mds ++ [(R : Int)]) N) w5 hP5
          have hpa := fun (t : Nat) (h : t < N) => page_ok b g c s (mds.length + 1) (ageL (mds ++ [(R : Int)]) N) t w5 hP5 (by rw [ageL_length]; exact h)
          have hra := fun (t : Nat) => rage_any A5 (mds ++ [(R : Int)]) (mds.length + 1) c5 t w5 hrm5 hml5 (by omega) hc5
          have hag : ∀ t : Nat, t < N → (ageL (mds ++ [(R : Int)]) N).getD t 0 = ageI (mds ++ [(R : Int)]) t := fun t h => by simp only [List.getD, ageL_get _ _ _ h, Option.getD_some]
          have HPP := Lib.hid hpp
          have HPA := Lib.hid hpa
          have HRA := Lib.hid hra
          have HAG := Lib.hid hag
          have HST := Lib.hid hst5
          have HB := Lib.hid hb5
          have e1 : ((mds.length : Int) + 1 != (mds.length : Int) + 1) = false := by simp
          clear hown5 hch5 hat5 hB5 hch hP5 hb5 hst5 hrm5 hpp hpa hra hag hown hnb hng hP3 hB3 hbr
          go_wp2_with fail
          refine HPP.out.mono ?_
          rintro e w' ⟨rfl, rfl⟩
          go_wp2_with fail
          go_loopw [16] (fun v16 wq => ∃ o : Nat, v16 = .int .i64 o ∧ o ≤ N ∧ wq = w5) (fun v _ => N - (intOf v).toNat)
          case atStart => exact ⟨0, rfl, Nat.zero_le _, rfl⟩
          case round =>
            obtain ⟨o, rfl, ho, rfl⟩ := hrel
            by_cases hlto : o < N
            · have hca := HPA.out o hlto
              have hcr := HRA.out o
              rw [HAG.out o hlto] at hca
              generalize ageI (mds ++ [(R : Int)]) o = q at hca hcr
              have e2 : ((q : Int) != q) = false := by simp
              go_wp2_with fail
              refine hca.mono ?_
              rintro e w' ⟨rfl, rfl⟩
              go_wp2_with fail
              refine hcr.mono ?_
              rintro e w' ⟨rfl, rfl⟩
              go_wp2_with fail
              go_roundw
              case rel => exact ⟨o + 1, by go_num, by omega, by first | rfl | trivial⟩
              case measure => simp [intOf]; omega
            · obtain rfl : o = N := by omega
              go_wp2_with fail
              go_roundw
              case rel => exact ⟨i + 1, mds ++ [(R : Int)], b, g, c, by go_num, by omega, by simp; omega, rfl, HST.out⟩
              case measure => simp [intOf]; omega
    · obtain rfl : i = k := by omega
      have hB := hS.below
      clear hS
      go_wp2_with (first | (go_at_call 10; refine (known_ok _).mono ?_; rintro e w' ⟨rfl, hkb⟩))
      go_ret
      exact ⟨rfl, by (repeat' (first | (with_reducible exact Below.refl _ _) | (with_reducible assumption) | (with_reducible refine Below.alloc ?_ ?_ _) | (with_reducible refine Below.drew ?_) | (with_reducible refine below_drewN ?_ _) | (with_reducible refine Below.setCell ?_ ?_ _) | (with_reducible refine Below.trans ?_ (Below.mono (by assumption) ?_)) | (first | go_size | (with_reducible exact Below.size (by assumption)) | (with_reducible exact Nat.le_trans (Below.size (by assumption)) (Below.size (by assumption))) | (refine Nat.le_trans (Below.size (by assumption)) ?_; go_size))))⟩
end QueuePicks
end Go.Proofs.Ytbpkedghnjiehaa
