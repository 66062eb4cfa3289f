/-
  Contracts of package fair, second part: turns.
-/
import Derived.Test.YthikpceckiapjaaFair
import Derived.Test.YthikpceckiapjaaDrawn
namespace Go.Proofs.Ythikpceckiapjaa
open Go.RowKit

/-- 64 rows of six numbers, side by side -/
def flat (f : Nat → Nat → Int) : List Value := (List.range 384).map fun i => Value.int .i64 (f (i / 6) (i % 6))
theorem flat_len (f : Nat → Nat → Int) : (flat f).length = 384 := by simp [flat]
theorem flat_get (f : Nat → Nat → Int) {t j : Nat} (ht : t < 64) (hj : j < 6) : (flat f)[t * 6 + j]? = some (.int .i64 (f t j)) := by
  unfold flat
  rw [List.getElem?_map, List.getElem?_range (by omega), Option.map_some]
  rw [show (t * 6 + j) / 6 = t by omega, show (t * 6 + j) % 6 = j by omega]
theorem flat_congr {f g : Nat → Nat → Int} (h : ∀ t j, t < 64 → j < 6 → f t j = g t j) : flat f = flat g := by
  unfold flat
  refine List.map_congr_left fun i hi => ?_
  have := List.mem_range.1 hi
  rw [h (i / 6) (i % 6) (by omega) (by omega)]
theorem flat_set (f : Nat → Nat → Int) {t j : Nat} (_ht : t < 64) (hj : j < 6) (v : Int) : (flat f).set (t * 6 + j) (.int .i64 v) = flat (fun t' j' => if t' = t ∧ j' = j then v else f t' j') := by
  apply List.ext_getElem?
  intro i
  by_cases hi : i < 384
  · have h1 : i = i / 6 * 6 + i % 6 := by omega
    rw [List.getElem?_set, flat_len]
    split
    · rename_i e
      rw [if_pos (by omega), h1, flat_get _ (by omega) (by omega), if_pos (by omega)]
    · rename_i e
      rw [h1, flat_get _ (by omega) (by omega), flat_get _ (by omega) (by omega), if_neg (by omega)]
  · rw [List.getElem?_eq_none (by rw [List.length_set, flat_len]; omega), List.getElem?_eq_none (by rw [flat_len]; omega)]
def colF (l0 l : List Ev) (t j : Nat) : Int := match j with
  | 0 => if has l t = true then (t : Int) else 0
  | 1 => ans l t
  | 2 => opn l t
  | 3 => tok l t
  | 4 => lng l t
  | _ => psd l0 l t
theorem colF_nil (l0 : List Ev) : flat (colF l0 []) = flat (fun _ _ => 0) := flat_congr fun t j _ hj => by
  match j, hj with
  | 0, _ => rfl
  | 1, _ => rfl
  | 2, _ => rfl
  | 3, _ => rfl
  | 4, _ => rfl
  | 5, _ => rfl
theorem fn_at {f g : Nat → Nat → Int} (t : Nat) (h : ∀ j, j < 6 → f t j = g t j) (k : ∀ t' j, t' ≠ t → j < 6 → f t' j = g t' j) : flat f = flat g := flat_congr fun t' j _ hj => by
  by_cases e : t' = t
  · subst e; exact h j hj
  · exact k t' j e hj
theorem colF_other (l0 l : List Ev) (x : Ev) {t t' : Nat} (hx : x.t = (t : Int)) (h : t' ≠ t) (j : Nat) : colF l0 (l ++ [x]) t' j = colF l0 l t' j := by
  have e1 : isT t' x = false := by simp [isT, hx]; omega
  have e2 : isA t' x = false := by simp [isA, hx]; omega
  have e3 : isO t' x = false := by simp [isO, hx]; omega
  have e4 : tkOf t' x = 0 := by simp [tkOf, e2]
  have e5 : psOf l0 t' x = 0 := by simp [psOf, e1]
  unfold colF
  split
  · rw [has_snoc, e1, Bool.or_false]
  · rw [ans_snoc, e2]; simp
  · rw [opn_snoc, e3]; simp
  · rw [tok_snoc, e4]; simp
  · rw [lng_snoc, e4]
    have := (fold_max (l.map (tkOf t')) 0).1
    unfold lng
    omega
  · rw [psd_snoc, e5]; simp
theorem col_open (l0 l : List Ev) (t : Nat) (q5 : Int) (q : Nat) (x : Ev) (hx : x.t = (t : Int)) (hw : x.w < 0) (h5 : colF l0 l t 5 = q5) (hq : psOf l0 t x = q) :
    flat (fun t' j' => if t' = t ∧ j' = 2 then ((opn l t : Int) + 1) else if t' = t ∧ j' = 5 then q5 + (q : Int) else if t' = t ∧ j' = 0 then (t : Int) else colF l0 l t' j') = flat (colF l0 (l ++ [x])) := by
  have e1 : isT t x = true := by simp [isT, hx]
  have e2 : isA t x = false := by simp [isA, hx]; omega
  have e3 : isO t x = true := by simp [isO, hx]; omega
  have e4 : tkOf t x = 0 := by simp [tkOf, e2]
  refine fn_at t (fun j hj => ?_) (fun t' j h _ => ?_)
  · match j, hj with
    | 0, _ => simp [colF, has_snoc, e1]
    | 1, _ => simp [colF, ans_snoc, e2]
    | 2, _ => simp [colF, opn_snoc, e3]
    | 3, _ => simp [colF, tok_snoc, e4]
    | 4, _ =>
      have := (fold_max (l.map (tkOf t)) 0).1
      simp [colF, lng_snoc, e4]
      unfold lng
      omega
    | 5, _ =>
      have h6 : (psd l0 l t : Int) = q5 := h5
      simp [colF, psd_snoc, hq, ← h6]
  · rw [colF_other l0 l x hx h]
    simp [h]
theorem col_done (l0 l : List Ev) (t : Nat) (q5 : Int) (q : Nat) (x : Ev) (hx : x.t = (t : Int)) (hw : 0 ≤ x.w) (h5 : colF l0 l t 5 = q5) (hq : psOf l0 t x = q) :
    flat (fun t' j' => if t' = t ∧ j' = 4 then max (lng l t) (x.w - x.a) else if t' = t ∧ j' = 3 then tok l t + (x.w - x.a) else if t' = t ∧ j' = 1 then ((ans l t : Int) + 1) else if t' = t ∧ j' = 5 then q5 + (q : Int) else if t' = t ∧ j' = 0 then (t : Int) else colF l0 l t' j') = flat (colF l0 (l ++ [x])) := by
  have e1 : isT t x = true := by simp [isT, hx]
  have e2 : isA t x = true := by simp [isA, hx]; omega
  have e3 : isO t x = false := by simp [isO, hx]; omega
  have e4 : tkOf t x = x.w - x.a := by simp [tkOf, e2]
  refine fn_at t (fun j hj => ?_) (fun t' j h _ => ?_)
  · match j, hj with
    | 0, _ => simp [colF, has_snoc, e1]
    | 1, _ => simp [colF, ans_snoc, e2]
    | 2, _ => simp [colF, opn_snoc, e3]
    | 3, _ => simp [colF, tok_snoc, e4]
    | 4, _ => simp [colF, lng_snoc, e4]
    | 5, _ =>
      have h6 : (psd l0 l t : Int) = q5 := h5
      simp [colF, psd_snoc, hq, ← h6]
  · rw [colF_other l0 l x hx h]
    simp [h]
theorem zeroT : (Try.prog.info? 64).map (fun i => (i.zero, i.size)) = some (some (.agg (flat (fun _ _ => 0)).toArray), 384) := by kernel_rfl
theorem max_if (a b : Int) : max a b = if a < b then b else a := by split <;> omega
set_option maxRecDepth 100000 in
set_option maxHeartbeats 4000000 in
theorem turns_ok (A : Option Addr) (l : List Ev) (m c : Nat) (w : World) {G : Nat → Prop} (hr : Rd G w A (evs l)) (hl : l.length = m) (hm : m ≤ 1000) (ho : ∀ e ∈ l, e.one) (hk : l.all okEv = true) :
    Calls Try.prog 25 #[.slice A m c] w fun e w' => e = .returned (.agg (flat (colF l l)).toArray) ∧ Below w.heap.size w w' := by
  subst hl
  have hz := (zero_of_info zeroT).1
  go_enter Try.func25, Try.ntmps25
  go_wp2
  have hR0 := Blk.new w 64 (flat (fun _ _ => 0))
  have hO0 := Blk.new (w.alloc (.cells (flat (fun _ _ => 0)).toArray 64)) 64 (flat (fun _ _ => 0))
  have hR1 := hR0.keep ((Ch.refl (fun _ => False) _).alloc (.cells (flat (fun _ _ => 0)).toArray 64)) (fun e => e)
  have hB0 : Below w.heap.size w ((w.alloc (.cells (flat (fun _ _ => 0)).toArray 64)).alloc (.cells (flat (fun _ _ => 0)).toArray 64)) := by (repeat' (first | (with_reducible exact Below.refl _ _) | (with_reducible assumption) | (with_reducible refine Below.alloc ?_ ?_ _) | (with_reducible refine Below.drew ?_) | (with_reducible refine below_drewN ?_ _) | (with_reducible refine Below.setCell ?_ ?_ _) | (with_reducible refine Below.trans ?_ (Below.mono (by assumption) ?_)) | (first | go_size | (with_reducible exact Below.size (by assumption)) | (with_reducible exact Nat.le_trans (Below.size (by assumption)) (Below.size (by assumption))) | (refine Nat.le_trans (Below.size (by assumption)) ?_; go_size))))
  rw [World.size_alloc] at hO0
  generalize (w.alloc (.cells (flat (fun _ _ => 0)).toArray 64)).alloc (.cells (flat (fun _ _ => 0)).toArray 64) = w1 at *
  rw [← colF_nil l] at hO0
  clear hR0 hz
  have HK := Lib.hid hk
  clear hk
  go_loopw [11] (fun v11 wr => ∃ k : Nat, k ≤ l.length ∧ v11 = .int .i64 k ∧ Blk wr (w.heap.size + 1) 64 (flat (colF l (l.take k))) ∧ Blk wr w.heap.size 64 (flat (fun _ _ => 0)) ∧ Below w.heap.size w wr) (fun v _ => l.length - (intOf v).toNat)
  case atStart => exact ⟨0, Nat.zero_le _, rfl, hO0, hR1, hB0⟩
  case round =>
    clear hO0 hR1 hB0
    obtain ⟨k, hk, rfl, hO, hR, hb⟩ := hrel
    by_cases hlt : k < l.length
    · obtain ⟨y, hy⟩ : ∃ y, l[k]? = some y := ⟨_, List.getElem?_eq_getElem hlt⟩
      have hym := List.mem_of_getElem? hy
      obtain ⟨b, o, rfl, _, hbl, hcell⟩ := rd_ev (hr.keep (Ch.of_below hb (fun _ => False)) (fun _ _ _ e => e)) hy
      have hcall := fun W hR => passed_ok (some ⟨b, o, none⟩) l l.length c y W (G := G) hR rfl (by omega) ho
      have HY := Lib.hid hy
      have HO := Lib.hid (all_oneCell_toArray (Ev.all_one (ho y hym)))
      have hoky := List.all_eq_true.1 HK.out y hym
      have HOK := Lib.hid hoky
      obtain ⟨q1, q2, q3, q4, q5⟩ := okEv_iff.1 hoky
      have hpas := pas_le l y
      clear hy hoky
      have HY' := HY
      obtain ⟨yt, ya, yw, n1, n2, n3, n4, n5, n6, n7, n8, n9, n10⟩ := y
      simp only [Ev.cells] at hcell HO
      simp only at q1 q2 q3 q4 q5
      simp only [Ev.val, Ev.cells] at hcall
      obtain ⟨t, rfl⟩ : ∃ t : Nat, yt = t := ⟨yt.toNat, by omega⟩
      have ht : t < 64 := by omega
      obtain ⟨q, hq⟩ : ∃ q, pas l ⟨(t : Int), ya, yw, n1, n2, n3, n4, n5, n6, n7, n8, n9, n10⟩ = q := ⟨_, rfl⟩
      rw [hq] at hcall hpas
      have HQ := Lib.hid hq
      clear hq
      have i1 : (0 : Int) ≤ k := Int.natCast_nonneg _
      have i2 : (k : Int) < l.length := by omega
      have i3 : (0 : Int) ≤ t := Int.natCast_nonneg _
      have i4 : (t : Int) < 64 := by omega
      have hz1 := hb.size
      have olt := hO.lt
      have ofz := hO.frozen (t * 6)
      have oc0 := hO.cell (t * 6)
      rw [show (flat (colF l (l.take k)))[t * 6]? = _ from flat_get (j := 0) _ ht (by omega)] at oc0
      go_upto_region 7 with (first | (refine wl_load 33 _ (b) (o + k * 13) ([.int .i64 (t : Int), n1, n2, n3, n4, n5, n6, n7, n8, n9, n10, .int .i64 ya, .int .i64 yw]) _ ?_ ?_ Try.underlying33 ?_ ?_ ?_; (focus rfl); (focus (exact hcell)); (focus rfl); (focus kernel_rfl)) | (refine wl_fresh 33 _ _ _ ([.int .i64 (t : Int), n1, n2, n3, n4, n5, n6, n7, n8, n9, n10, .int .i64 ya, .int .i64 yw].toArray) ?_ ?_ ?_ ?_ ?_ ?_; (focus rfl); (focus rfl); (focus kernel_rfl); (focus rfl); (focus (exact HO.out))))
      have hOa := (hO.set (t * 6) (.int .i64 (t : Int))).keep ((Ch.refl (fun _ => False) _).alloc (.cells [.int .i64 (t : Int), n1, n2, n3, n4, n5, n6, n7, n8, n9, n10, .int .i64 ya, .int .i64 yw].toArray 33)) (fun e => e)
      have hRa := (hR.keep ((Ch.refl (fun j => j = w.heap.size + 1) _).setCell (p := ⟨w.heap.size + 1, t * 6, none⟩) (.inl rfl) (.int .i64 (t : Int))) (by omega)).keep ((Ch.refl (fun _ => False) _).alloc (.cells [.int .i64 (t : Int), n1, n2, n3, n4, n5, n6, n7, n8, n9, n10, .int .i64 ya, .int .i64 yw].toArray 33)) (fun e => e)
      have hya := range_blk (Blk.new (wr.setCell ⟨w.heap.size + 1, t * 6, none⟩ (.int .i64 (t : Int))) 33 [.int .i64 (t : Int), n1, n2, n3, n4, n5, n6, n7, n8, n9, n10, .int .i64 ya, .int .i64 yw])
      have hba : Below w.heap.size w ((wr.setCell ⟨w.heap.size + 1, t * 6, none⟩ (.int .i64 (t : Int))).alloc (.cells [.int .i64 (t : Int), n1, n2, n3, n4, n5, n6, n7, n8, n9, n10, .int .i64 ya, .int .i64 yw].toArray 33)) := by (repeat' (first | (with_reducible exact Below.refl _ _) | (with_reducible assumption) | (with_reducible refine Below.alloc ?_ ?_ _) | (with_reducible refine Below.drew ?_) | (with_reducible refine below_drewN ?_ _) | (with_reducible refine Below.setCell ?_ ?_ _) | (with_reducible refine Below.trans ?_ (Below.mono (by assumption) ?_)) | (first | go_size | (with_reducible exact Below.size (by assumption)) | (with_reducible exact Nat.le_trans (Below.size (by assumption)) (Below.size (by assumption))) | (refine Nat.le_trans (Below.size (by assumption)) ?_; go_size))))
      rw [World.size_setCell] at hya
      generalize (wr.setCell ⟨w.heap.size + 1, t * 6, none⟩ (.int .i64 (t : Int))).alloc (.cells [.int .i64 (t : Int), n1, n2, n3, n4, n5, n6, n7, n8, n9, n10, .int .i64 ya, .int .i64 yw].toArray 33) = wa at hOa hRa hya hba ⊢
      rw [show (flat (colF l (l.take k))).set (t * 6) (.int .i64 (t : Int)) = _ from flat_set (j := 0) _ ht (by omega) _] at hOa
      have hra := hr.keep (Ch.of_below hba (fun _ => False)) (fun _ _ _ e => e)
      have oc5 := hOa.cell (t * 6 + 5)
      rw [flat_get _ ht (by omega)] at oc5
      simp only [show ¬ ((5 : Nat) = 0) by omega, and_false, if_false] at oc5
      obtain ⟨q5, hq5⟩ : ∃ q5, colF l (l.take k) t 5 = q5 := ⟨_, rfl⟩
      rw [hq5] at oc5
      have HQ5 := Lib.hid hq5
      have hps := psd_le t l (l.take k)
      have hq6 : 0 ≤ q5 ∧ q5 ≤ 1000000 := by
        have h0 : q5 = (psd l (l.take k) t : Int) := hq5.symm
        have h1 : (l.take k).length ≤ 1000 := by rw [List.length_take]; omega
        have h2 := Nat.mul_le_mul h1 hm
        omega
      have olt := hOa.lt
      have hwq : IntKind.i64.wrap (q5 + (q : Int)) = q5 + q := IntWalk.i64_in _ (by omega)
      have dra := (Below.refl wa.heap.size wa).drew
      have hya := (World.rangeAt_drew _ _ _ _).2 hya
      have hOa := hOa.keep (Ch.of_below dra (fun _ => False)) (fun e => e)
      have hRa := hRa.keep (Ch.of_below dra (fun _ => False)) (fun e => e)
      have hra := hra.keep (Ch.of_below dra (fun _ => False)) (fun _ _ _ e => e)
      have hba := hba.drew
      clear hq5 hps oc0 ofz hcell HO
      go_cut [] (fun wx => Blk wx (w.heap.size + 1) 64 ((flat fun t' j' => if t' = t ∧ j' = 0 then (t : Int) else colF l (l.take k) t' j').set (t * 6 + 5) (.int .i64 (q5 + q))) ∧ Blk wx w.heap.size 64 (flat (fun _ _ => 0)) ∧ wx.rangeAt wr.heap.size 0 [.int .i64 (t : Int), n1, n2, n3, n4, n5, n6, n7, n8, n9, n10, .int .i64 ya, .int .i64 yw] ∧ Below w.heap.size w wx)
      case first =>
        refine wp_region_held_drew (S := (fun w' => w'.rangeAt wr.heap.size 0 [.int .i64 (t : Int), n1, n2, n3, n4, n5, n6, n7, n8, n9, n10, .int .i64 ya, .int .i64 yw])) (by kernel_rfl) ?hsr (fun hHeld => ?hrr)
        case hsr => exact hya
        case hrr =>
          have hHr := hHeld
          clear hHeld
          refine take_yes (i := 0) (v := ?vr1) rfl (by kernel_rfl) (by kernel_rfl) (by kernel_rfl) (fun _ _ _ h => h) (by rfl) ?yr1 hHr ?rr1
          case yr1 => (intro w hSw; have hy1 := hSw; go_simp; (try with_reducible rfl))
          case rr1 =>
            try simp only [Act.put, List.setIfInBounds_toArray, List.set_cons_zero, List.set_cons_succ]
            refine take_yes (i := 1) (v := ?vr2) rfl (by kernel_rfl) (by kernel_rfl) (by kernel_rfl) (fun _ _ _ h => h) (by rfl) ?yr2 hHr ?rr2
            case yr2 => (intro w hSw; have hy1 := hSw; go_simp; (try with_reducible rfl))
            case rr2 =>
              try simp only [Act.put, List.setIfInBounds_toArray, List.set_cons_zero, List.set_cons_succ]
              refine take_yes (i := 2) (v := ?vr3) rfl (by kernel_rfl) (by kernel_rfl) (by kernel_rfl) (fun _ _ _ h => h) (by rfl) ?yr3 hHr ?rr3
              case yr3 => (intro w hSw; have hy1 := hSw; go_simp; (try with_reducible rfl))
              case rr3 =>
                try simp only [Act.put, List.setIfInBounds_toArray, List.set_cons_zero, List.set_cons_succ]
                refine take_yes (i := 4) (v := ?vr4) rfl (by kernel_rfl) (by kernel_rfl) (by kernel_rfl) (fun _ _ _ h => h) (by rfl) ?yr4 hHr ?rr4
                case yr4 => (intro w hSw; have hy1 := hSw; go_simp; (try with_reducible rfl))
                case rr4 =>
                  try simp only [Act.put, List.setIfInBounds_toArray, List.set_cons_zero, List.set_cons_succ]
                  refine take_mid (i := 5) rfl (by kernel_rfl) (by kernel_rfl) (by kernel_rfl) _ _ rfl wr.heap.size (0) ([.int .i64 (t : Int), n1, n2, n3, n4, n5, n6, n7, n8, n9, n10, .int .i64 ya, .int .i64 yw]) (fun _ _ _ h => h) (by rfl) rfl _ ?yr5 Try.underlying33 rfl (by kernel_rfl) hHr ?rr5
                  case yr5 => (intro w hSw; exact hSw)
                  case rr5 =>
                    try simp only [Act.put, List.setIfInBounds_toArray, List.set_cons_zero, List.set_cons_succ]
                    refine wpAnyH_ready (rs := [3, 6]) (by kernel_rfl) (by simp) ?br6
                    case br6 =>
                      refine cons_l rfl (fun K hK => ?sr7) ?mr7
                      case sr7 =>
                        have hx : (wa).cell? ⟨w.heap.size + 1, t * 6 + 5, none⟩ = some (.int .i64 q5) := oc5
                        go_simp
                        refine hK.out _ _ hHr (fun hHeld => ?nr7)
                        case nr7 =>
                          clear hK K hHr
                          have hHr := hHeld
                          try simp only [Act.put, List.setIfInBounds_toArray, List.set_cons_zero, List.set_cons_succ]
                          refine wpAnyH_ready (rs := [6]) (by kernel_rfl) (by simp) ?br8
                          case br8 =>
                            refine cons_l rfl (fun K hK => ?sr9) ?mr9
                            case sr9 =>
                              go_simp
                              with_reducible refine (hcall _ ?_).mono ?_
                              exact hra
                              rintro e w2 ⟨rfl, hB2⟩
                              go_wp2_with fail
                              have hHr2 := range_keep hHr (Ch.of_below hB2 (fun _ => False)) (fun e => e)
                              refine hK.out _ _ hHr2 (fun hHeld => ?nr9)
                              case nr9 =>
                                clear hK K hHr
                                have hHr := hHeld
                                try simp only [Act.put, List.setIfInBounds_toArray, List.set_cons_zero, List.set_cons_succ]
                                refine take_yes (i := 7) (v := ?vr10) rfl (by kernel_rfl) (by kernel_rfl) (by kernel_rfl) (fun _ _ _ h => h) (by rfl) ?yr10 hHr ?rr10
                                case yr10 => (intro w hSw; have hy1 := hSw; go_simp; (try with_reducible rfl))
                                case rr10 =>
                                  try simp only [Act.put, List.setIfInBounds_toArray, List.set_cons_zero, List.set_cons_succ]
                                  refine take_yes (i := 8) (v := ?vr11) rfl (by kernel_rfl) (by kernel_rfl) (by kernel_rfl) (fun _ _ _ h => h) (by rfl) ?yr11 hHr ?rr11
                                  case yr11 => (intro w hSw; have hy1 := hSw; go_simp; (try with_reducible rfl))
                                  case rr11 =>
                                    try simp only [Act.put, List.setIfInBounds_toArray, List.set_cons_zero, List.set_cons_succ]
                                    refine take_yes (i := 9) (v := ?vr12) rfl (by kernel_rfl) (by kernel_rfl) (by kernel_rfl) (fun _ _ _ h => h) (by rfl) ?yr12 hHr ?rr12
                                    case yr12 => (intro w hSw; have hy1 := hSw; go_simp; (try with_reducible rfl))
                                    case rr12 =>
                                      try simp only [Act.put, List.setIfInBounds_toArray, List.set_cons_zero, List.set_cons_succ]
                                      refine wpAnyH_ready (rs := [10]) (by kernel_rfl) (by simp) ?br13
                                      case br13 =>
                                        refine cons_l rfl (fun K hK => ?sr14) ?mr14
                                        case sr14 =>
                                          have hOz := hOa.keep (Ch.of_below hB2 (fun _ => False)) (fun e => e)
                                          have fz := hOz.frozen (t * 6 + 5)
                                          have cz := hOz.cell (t * 6 + 5)
                                          rw [flat_get _ ht (by omega)] at cz
                                          have hHr3 := range_keep hHr ((Ch.refl (fun j => j = w.heap.size + 1) w2).setCell (p := ⟨w.heap.size + 1, t * 6 + 5, none⟩) (.inl rfl) (.int .i64 (q5 + q))) (by omega)
                                          go_simp
                                          refine hK.out _ _ hHr3 (fun hHeld => ?nr14)
                                          case nr14 =>
                                            clear hK K hHr
                                            have hHr := hHeld
                                            try simp only [Act.put]
                                            refine wpAnyH_done (by kernel_rfl) ?_ _
                                            go_wp2_with fail
                                            go_meet
                                            have hO3 := hOz.set (t * 6 + 5) (.int .i64 (q5 + q))
                                            have hc3 := (Ch.refl (fun j => j = w.heap.size + 1) w2).setCell (p := ⟨w.heap.size + 1, t * 6 + 5, none⟩) (.inl rfl) (.int .i64 (q5 + q))
                                            exact ⟨hO3, (hRa.keep (Ch.of_below hB2 (fun _ => False)) (fun e => e)).keep hc3 (by omega), hHr, (hba.trans (hB2.mono hba.size)).trans (hc3.below (fun j _ e => by have := hba.size; omega) (by have := hba.size; have := hB2.size; omega))⟩
                                        case mr14 =>
                                          exact AllReadyH.nil
                            case mr9 =>
                              exact AllReadyH.nil
                      case mr7 =>
                        refine cons_l rfl (fun K hK => ?sr15) ?mr15
                        case sr15 =>
                          go_simp
                          with_reducible refine (hcall _ ?_).mono ?_
                          exact hra
                          rintro e w2 ⟨rfl, hB2⟩
                          go_wp2_with fail
                          have hHr2 := range_keep hHr (Ch.of_below hB2 (fun _ => False)) (fun e => e)
                          refine hK.out _ _ hHr2 (fun hHeld => ?nr15)
                          case nr15 =>
                            clear hK K hHr
                            have hHr := hHeld
                            try simp only [Act.put, List.setIfInBounds_toArray, List.set_cons_zero, List.set_cons_succ]
                            refine wpAnyH_ready (rs := [3]) (by kernel_rfl) (by simp) ?br16
                            case br16 =>
                              refine cons_l rfl (fun K hK => ?sr17) ?mr17
                              case sr17 =>
                                have hx : (w2).cell? ⟨w.heap.size + 1, t * 6 + 5, none⟩ = some (.int .i64 q5) := (Ch.of_below hB2 (fun _ => False)).keeps oc5 (fun e => e)
                                go_simp
                                refine hK.out _ _ hHr (fun hHeld => ?nr17)
                                case nr17 =>
                                  clear hK K hHr
                                  have hHr := hHeld
                                  try simp only [Act.put, List.setIfInBounds_toArray, List.set_cons_zero, List.set_cons_succ]
                                  refine take_yes (i := 7) (v := ?vr18) rfl (by kernel_rfl) (by kernel_rfl) (by kernel_rfl) (fun _ _ _ h => h) (by rfl) ?yr18 hHr ?rr18
                                  case yr18 => (intro w hSw; have hy1 := hSw; go_simp; (try with_reducible rfl))
                                  case rr18 =>
                                    try simp only [Act.put, List.setIfInBounds_toArray, List.set_cons_zero, List.set_cons_succ]
                                    refine take_yes (i := 8) (v := ?vr19) rfl (by kernel_rfl) (by kernel_rfl) (by kernel_rfl) (fun _ _ _ h => h) (by rfl) ?yr19 hHr ?rr19
                                    case yr19 => (intro w hSw; have hy1 := hSw; go_simp; (try with_reducible rfl))
                                    case rr19 =>
                                      try simp only [Act.put, List.setIfInBounds_toArray, List.set_cons_zero, List.set_cons_succ]
                                      refine take_yes (i := 9) (v := ?vr20) rfl (by kernel_rfl) (by kernel_rfl) (by kernel_rfl) (fun _ _ _ h => h) (by rfl) ?yr20 hHr ?rr20
                                      case yr20 => (intro w hSw; have hy1 := hSw; go_simp; (try with_reducible rfl))
                                      case rr20 =>
                                        try simp only [Act.put, List.setIfInBounds_toArray, List.set_cons_zero, List.set_cons_succ]
                                        refine wpAnyH_ready (rs := [10]) (by kernel_rfl) (by simp) ?br21
                                        case br21 =>
                                          refine cons_l rfl (fun K hK => ?sr22) ?mr22
                                          case sr22 =>
                                            have hOz := hOa.keep (Ch.of_below hB2 (fun _ => False)) (fun e => e)
                                            have fz := hOz.frozen (t * 6 + 5)
                                            have cz := hOz.cell (t * 6 + 5)
                                            rw [flat_get _ ht (by omega)] at cz
                                            have hHr3 := range_keep hHr ((Ch.refl (fun j => j = w.heap.size + 1) w2).setCell (p := ⟨w.heap.size + 1, t * 6 + 5, none⟩) (.inl rfl) (.int .i64 (q5 + q))) (by omega)
                                            go_simp
                                            refine hK.out _ _ hHr3 (fun hHeld => ?nr22)
                                            case nr22 =>
                                              clear hK K hHr
                                              have hHr := hHeld
                                              try simp only [Act.put]
                                              refine wpAnyH_done (by kernel_rfl) ?_ _
                                              go_wp2_with fail
                                              go_meet
                                              have hO3 := hOz.set (t * 6 + 5) (.int .i64 (q5 + q))
                                              have hc3 := (Ch.refl (fun j => j = w.heap.size + 1) w2).setCell (p := ⟨w.heap.size + 1, t * 6 + 5, none⟩) (.inl rfl) (.int .i64 (q5 + q))
                                              exact ⟨hO3, (hRa.keep (Ch.of_below hB2 (fun _ => False)) (fun e => e)).keep hc3 (by omega), hHr, (hba.trans (hB2.mono hba.size)).trans (hc3.below (fun j _ e => by have := hba.size; omega) (by have := hba.size; have := hB2.size; omega))⟩
                                          case mr22 =>
                                            exact AllReadyH.nil
                              case mr17 =>
                                exact AllReadyH.nil
                        case mr15 =>
                          exact AllReadyH.nil
      case rest =>
        clear hO hR hb hOa hRa hya hba hra hcall
        obtain ⟨hO, hR, hy, hb⟩ := hcut
        have htook := fun W => took_ok ⟨(t : Int), ya, yw, n1, n2, n3, n4, n5, n6, n7, n8, n9, n10⟩ W HOK.out
        simp only [Ev.val, Ev.cells] at htook
        have hz3 := hb.size
        clear oc5 hwq dra olt
        have htk := take_snoc l k _ HY.out
        have hlen : (l.take k).length ≤ 1000 := by rw [List.length_take]; omega
        have hokt : ∀ e ∈ l.take k, okEv e = true := fun e he => List.all_eq_true.1 HK.out e (List.mem_of_mem_take he)
        have hpsn : psOf l t ⟨(t : Int), ya, yw, n1, n2, n3, n4, n5, n6, n7, n8, n9, n10⟩ = q := by
          unfold psOf isT
          rw [if_pos (by simp)]
          exact HQ.out
        go_upto_region 9 with (first | (refine wl_load 33 _ (wr.heap.size) (0) ([.int .i64 (t : Int), n1, n2, n3, n4, n5, n6, n7, n8, n9, n10, .int .i64 ya, .int .i64 yw]) _ ?_ ?_ Try.underlying33 ?_ ?_ ?_; (focus rfl); (focus (exact hy)); (focus rfl); (focus kernel_rfl)) | (go_at_call 22; refine (htook _).mono ?_; rintro e w5 ⟨rfl, hB5⟩))
        rw [flat_set _ ht (by omega)] at hO
        have hO := hO.keep (Ch.of_below hB5 (fun _ => False)) (fun e => e)
        have hR := hR.keep (Ch.of_below hB5 (fun _ => False)) (fun e => e)
        have hb := hb.trans (hB5.mono hz3)
        have hz5 := hb.size
        clear hy hB5 htook
        have hcells := fun j (hj : j < 6) => (hO.cell (t * 6 + j)).trans (flat_get _ ht hj)
        by_cases hw : yw < 0
        · have hfin : (flat fun t' j' => if t' = t ∧ j' = 5 then q5 + (q : Int) else if t' = t ∧ j' = 0 then (t : Int) else colF l (l.take k) t' j').set (t * 6 + 2) (.int .i64 ((opn (l.take k) t : Int) + 1)) = flat (colF l (l.take (k + 1))) := by
            rw [htk, flat_set _ ht (by omega)]
            exact col_open l (l.take k) t q5 q _ rfl hw HQ5.out hpsn
          have c2 : w5.cell? ⟨w.heap.size + 1, t * 6 + 2, none⟩ = some (.int .i64 (opn (l.take k) t)) := (hcells 2 (by omega)).trans (by rw [if_neg (by omega), if_neg (by omega)]; rfl)
          have f2 := hO.frozen (t * 6 + 2)
          have hop := opn_le (l := l.take k) (t := t)
          have hc2 := (Ch.refl (fun j => j = w.heap.size + 1) w5).setCell (p := ⟨w.heap.size + 1, t * 6 + 2, none⟩) (.inl rfl) (.int .i64 ((opn (l.take k) t : Int) + 1))
          have hO2 := hO.set (t * 6 + 2) (.int .i64 ((opn (l.take k) t : Int) + 1))
          rw [hfin] at hO2
          have dw : decide (0 ≤ yw) = false := decide_eq_false (by omega)
          have HF := Lib.hid (And.intro hO2 (And.intro (hR.keep hc2 (by omega)) (hb.trans (hc2.below (fun j _ e => by omega) hz5))))
          clear hO2 hcells hfin hc2 htk hpsn hokt hw hO hR
          generalize opn (l.take k) t = p at *
          go_wp2_with fail
          go_roundw
          case rel => exact ⟨k + 1, by omega, by go_num, HF.out⟩
          case measure => simp [intOf]; omega
        · have hw : 0 ≤ yw := by omega
          obtain ⟨s1, s2⟩ := tok_bd t _ hokt
          obtain ⟨s3, s4⟩ := lng_bd (t := t) hokt
          have hfin : ((((flat fun t' j' => if t' = t ∧ j' = 5 then q5 + (q : Int) else if t' = t ∧ j' = 0 then (t : Int) else colF l (l.take k) t' j').set (t * 6 + 1) (.int .i64 ((ans (l.take k) t : Int) + 1))).set (t * 6 + 3) (.int .i64 (tok (l.take k) t + (yw - ya)))).set (t * 6 + 4) (.int .i64 (max (lng (l.take k) t) (yw - ya)))) = flat (colF l (l.take (k + 1))) := by
            rw [htk, flat_set _ ht (by omega), flat_set _ ht (by omega), flat_set _ ht (by omega)]
            exact col_done l (l.take k) t q5 q _ rfl hw HQ5.out hpsn
          have c1 : w5.cell? ⟨w.heap.size + 1, t * 6 + 1, none⟩ = some (.int .i64 (ans (l.take k) t)) := (hcells 1 (by omega)).trans (by rw [if_neg (by omega), if_neg (by omega)]; rfl)
          have c3 : w5.cell? ⟨w.heap.size + 1, t * 6 + 3, none⟩ = some (.int .i64 (tok (l.take k) t)) := (hcells 3 (by omega)).trans (by rw [if_neg (by omega), if_neg (by omega)]; rfl)
          have c4 : w5.cell? ⟨w.heap.size + 1, t * 6 + 4, none⟩ = some (.int .i64 (lng (l.take k) t)) := (hcells 4 (by omega)).trans (by rw [if_neg (by omega), if_neg (by omega)]; rfl)
          have f1 := hO.frozen (t * 6 + 1)
          have f3 := hO.frozen (t * 6 + 3)
          have f4 := hO.frozen (t * 6 + 4)
          have hop := ans_le (l := l.take k) (t := t)
          have hc2 := (((Ch.refl (fun j => j = w.heap.size + 1) w5).setCell (p := ⟨w.heap.size + 1, t * 6 + 1, none⟩) (.inl rfl) (.int .i64 ((ans (l.take k) t : Int) + 1))).setCell (p := ⟨w.heap.size + 1, t * 6 + 3, none⟩) (.inl rfl) (.int .i64 (tok (l.take k) t + (yw - ya)))).setCell (p := ⟨w.heap.size + 1, t * 6 + 4, none⟩) (.inl rfl) (.int .i64 (max (lng (l.take k) t) (yw - ya)))
          have hO2 := ((hO.set (t * 6 + 1) (.int .i64 ((ans (l.take k) t : Int) + 1))).set (t * 6 + 3) (.int .i64 (tok (l.take k) t + (yw - ya)))).set (t * 6 + 4) (.int .i64 (max (lng (l.take k) t) (yw - ya)))
          rw [hfin] at hO2
          have dw : decide (0 ≤ yw) = true := decide_eq_true hw
          have HF := Lib.hid (And.intro hO2 (And.intro (hR.keep hc2 (by omega)) (hb.trans (hc2.below (fun j _ e => by omega) hz5))))
          clear hO2 hcells hfin hc2 htk hpsn hokt hO hR
          generalize ans (l.take k) t = p1 at *
          generalize tok (l.take k) t = p3 at *
          generalize lng (l.take k) t = p4 at *
          go_wp2_with fail
          go_roundw
          case rel => exact ⟨k + 1, by omega, by go_num, by have := HF.out; rwa [max_if] at this⟩
          case measure => simp [intOf]; omega
    · obtain rfl : k = l.length := by omega
      rw [List.take_length] at hO
      have hrr := range_blk hO
      have h1 : (flat (colF l l)).toArray.all (·.oneCell') = true := all_oneCell_toArray (fun v hv => by
        unfold flat at hv
        obtain ⟨i, _, rfl⟩ := List.mem_map.1 hv
        rfl)
      have HR := Lib.hid (blk_setRow (cs' := flat (colF l l)) hR)
      have HB := Lib.hid (hb.trans ((setRow_ch wr w.heap.size (flat (colF l l)).toArray).below (fun j _ e => by omega) hb.size))
      have HH := Lib.hid h1
      clear h1 hO hb
      go_wp2_with (first | (refine wl_load 64 _ (w.heap.size + 1) (0) (flat (colF l l)) _ ?_ ?_ Try.underlying64 ?_ ?_ ?_; (focus rfl); (focus (exact hrr)); (focus rfl); (focus kernel_rfl)) | (refine wl_row 64 _ _ w.heap.size 64 (flat (fun _ _ => 0)).toArray (flat (colF l l)).toArray ?_ ?_ ?_ ?_ ?_ ?_ ?_; (focus rfl); (focus rfl); (focus (exact hR)); (focus kernel_rfl); (focus (simp [flat_len])); (focus (exact HH.out))))
      refine bodyPost_ret (v := .agg (flat (colF l l)).toArray) (results_cell_row (p := 2) (ty := 64) (by kernel_rfl) _ _ w.heap.size 64 (flat (colF l l)).toArray (0, 0) _ (by rfl) HR.out Try.underlying64 rfl (by kernel_rfl)) rfl ⟨rfl, HB.out⟩
end Go.Proofs.Ythikpceckiapjaa
