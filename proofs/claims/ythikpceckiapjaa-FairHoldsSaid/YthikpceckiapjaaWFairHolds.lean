/-
  The walk of FairHolds: it returns true at every input.
-/
import Derived.Test.YthikpceckiapjaaFairHP
import Derived.Test.YthikpceckiapjaaKFair
namespace Go.Proofs.Ythikpceckiapjaa
open Go.RowKit
namespace FairHolds

theorem evInfo : (Try.prog.info? 33).map (fun i => (i.zero, i.size, i.bytes)) = some (some (ev0 0 0 0).val, 13, 160) := by kernel_rfl
theorem wf_u8 {x : Int} (h : (Lit.int .u8 x).wf = true) : 0 ≤ x ∧ x ≤ 255 := by
  simp [Lit.wf, IntKind.min, IntKind.max, IntKind.signed, IntKind.bits] at h
  omega
theorem own_lt {w : World} {base n k : Nat} {e : TypeId} {size : Nat} {v : Value} {xs : List Value} (h : w.ownsRow base e size v n xs) (hk : v.ownBlock = some k) : k < w.heap.size := by
  rcases h.2 with ⟨rfl, _⟩ | ⟨g, cap, cur, rfl, _, hh, _⟩
  · cases hk
  · injection hk with hk
    subst hk
    rcases Nat.lt_or_ge g w.heap.size with hl | hl
    · exact hl
    · rw [Array.getElem?_eq_none hl] at hh; cases hh
def eqB (rows : List (List Int)) (k : Nat) : Bool := (rows.take k).all fun r => r.getD 1 0 == (rows.getD 0 []).getD 1 0
theorem sAO_bd : ∀ rows : List (List Int), (∀ r ∈ rows, (0 ≤ r.getD 1 0 ∧ r.getD 1 0 ≤ 1000) ∧ (0 ≤ r.getD 2 0 ∧ r.getD 2 0 ≤ 1000)) → 0 ≤ sAO rows ∧ sAO rows ≤ 2000 * rows.length
  | [], _ => by simp [sAO]
  | r :: rows, h => by
    have h1 := sAO_bd rows (fun r hr => h r (by simp [hr]))
    have h2 := h r (by simp)
    have e : sAO (r :: rows) = (r.getD 1 0 + r.getD 2 0) + sAO rows := by simp [sAO]
    rw [e, List.length_cons]
    omega
set_option maxRecDepth 100000 in
set_option maxHeartbeats 8000000 in
theorem walk (A : Option Addr) (m c : Nat) (xs : List (List Value)) (lx : xs.length = m) (hmc : m ≤ c) (_hcm : c ≤ 9223372036854775807) (_hz : A = none → c = 0) (s : Int) (ws : (Lit.int .u8 s).wf = true) (w : World)
    (hr0 : Rd (fun b => b < w.heap.size) w A xs.flatten) (hfit : ∀ r ∈ xs, Fit evLeaf r) :
    Calls Try.prog 4 #[.slice A m c, .int .u8 s] w fun e w' => e = .returned (.bool true) ∧ Below w.heap.size w w' := by
  have hs := wf_u8 ws
  clear ws
  obtain ⟨l, rfl, hl1⟩ := evs_of hfit
  rw [List.length_map] at lx
  subst lx
  have hr : Rd (fun _ => True) w A (evs l) := hr0.mono (fun _ _ _ => trivial)
  have ho : ∀ e ∈ l, e.one := fun e he => (hl1 e he).1
  clear hr0 hfit hl1
  have HR := Lib.hid (show ∀ W, Below w.heap.size w W → Rd (fun _ => True) W A (evs l) from fun W hW => hr.keep (Ch.of_below hW (fun _ => False)) (fun _ _ _ e => e))
  have HO := Lib.hid ho
  by_cases hlong : 60 < l.length
  · have d1 : decide (60 < (l.length : Int)) = true := decide_eq_true (by omega)
    go_enter Try.func4, Try.ntmps4
    go_wp2_with (go_at_call 6; refine (known_ok _).mono ?_; rintro e w' ⟨rfl, hkb⟩)
    go_ret
    exact ⟨rfl, hkb⟩
  have d1 : decide (60 < (l.length : Int)) = false := decide_eq_false (by omega)
  have hrun := run_ok A l l.length c w hr rfl (by omega) ho
  by_cases hall : l.all okEv = false
  · rw [hall] at hrun
    clear hall
    go_enter Try.func4, Try.ntmps4
    go_wp2_with fail
    refine hrun.mono ?_
    rintro e w1 ⟨rfl, hb1⟩
    go_wp2_with fail
    refine (known_ok _).mono ?_
    rintro e w2 ⟨rfl, hb2⟩
    go_wp2_with fail
    go_ret
    exact ⟨rfl, hb1.trans (hb2.mono hb1.size)⟩
  have hall : l.all okEv = true := by simpa using hall
  rw [hall] at hrun
  have hokl : ∀ e ∈ l, okEv e = true := List.all_eq_true.1 hall
  have herr : errF l = 0 := by unfold errF; rw [if_neg (by omega), if_pos hall]
  have htu := fun W hW => Turns_ok A l l.length c W (HR.out W hW) rfl (by omega) ho
  have hev := fun W hW => Even_ok A l l.length c W (HR.out W hW) rfl (by omega) ho
  have htr : turnsR l = rowsT l 64 := by unfold turnsR; rw [if_neg (by omega)]
  have her : evenR l = evenN (rowsT l 64) := by unfold evenR; rw [if_neg (by omega)]
  have hrok := rowsT_ok l 64 (by omega)
  have hsix := rowsT_six l 64
  have hrl := rowsT_len l 64
  have hsum := sAO_all l hokl
  have hrow2 : ∀ r ∈ rowsT l 64, (0 ≤ r.getD 1 0 ∧ r.getD 1 0 ≤ 1000) ∧ (0 ≤ r.getD 2 0 ∧ r.getD 2 0 ≤ 1000) := fun r hr => by
    obtain ⟨t, _, rfl⟩ := List.mem_map.1 hr
    have a1 := ans_le (l := l) (t := t)
    have a2 := opn_le (l := l) (t := t)
    show (0 ≤ (ans l t : Int) ∧ (ans l t : Int) ≤ 1000) ∧ (0 ≤ (opn l t : Int) ∧ (opn l t : Int) ≤ 1000)
    omega
  have hebd := even_bd hrok
  have hm1 := fun s => perm_turns (turnL_perm l s)
  have hm2 := fun s => perm_even (turnL_perm l s)
  have hm3 := fun s => perm_err (turnL_perm l s)
  rw [htr] at htu hm1
  rw [her] at hev hm2
  rw [herr] at htu hev hm3
  have hea := fun c => even_all (rows := rowsT l 64) c
  generalize rowsT l 64 = rows at *
  have HEA := Lib.hid hea
  have HM1 := Lib.hid hm1
  have HM2 := Lib.hid hm2
  have HM3 := Lib.hid hm3
  have HK := Lib.hid hokl
  have HSUM := Lib.hid hsum
  have hrow2 : ∀ r ∈ rows, (0 ≤ r.getD 1 0 ∧ r.getD 1 0 ≤ 1000) ∧ (0 ≤ r.getD 2 0 ∧ r.getD 2 0 ≤ 1000) := hrow2
  have ROW := Lib.hid hrow2
  have SBD := Lib.hid (show ∀ k, k ≤ rows.length → 0 ≤ sAO (rows.take k) ∧ sAO (rows.take k) ≤ 128000 from fun k hk => by
    have h1 := sAO_bd (rows.take k) (fun r hr => hrow2 r (List.mem_of_mem_take hr))
    rw [List.length_take] at h1
    omega)
  clear hrow2
  obtain ⟨hebd1, hebd2⟩ := hebd
  obtain ⟨EV, hEV⟩ : ∃ EV, evenN rows = EV := ⟨_, rfl⟩
  rw [hEV] at hev hebd1 hebd2
  have HEV := Lib.hid hEV
  have de1 : decide (EV < 0) = false := decide_eq_false (by omega)
  have de2 : decide (1000 < EV) = false := decide_eq_false (by omega)
  clear hall hokl herr htr her hsum hea hm1 hm2 hm3 hEV ho hr
  go_enter Try.func4, Try.ntmps4
  go_wp2_with fail
  refine hrun.mono ?_
  rintro e w1 ⟨rfl, hb1⟩
  clear hrun
  go_wp2_with fail
  refine (htu _ hb1).mono ?_
  rintro e w2 ⟨A2, c2, rfl, hr2, hc2, hc3, hA2, hb2⟩
  have hg2 : Rd (fun _ => True) w2 A2 (turnV rows) := hr2.mono (fun _ _ _ => trivial)
  have hb2 := hb1.trans (hb2.mono hb1.size)
  clear htu hb1 hr2
  go_wp2_with fail
  refine (hev _ hb2).mono ?_
  rintro e w3 ⟨rfl, hb3⟩
  have HR2 := Lib.hid (show ∀ W, Below w3.heap.size w3 W → Rd (fun _ => True) W A2 (turnV rows) from fun W hW => hg2.keep (Ch.of_below (hb3.trans (hW.mono hb3.size)) (fun _ => False)) (fun _ _ _ e => e))
  have hb3 := hb2.trans (hb3.mono hb2.size)
  clear hev hb2 hg2
  go_wp2_with fail
  -- the sum, and whether all are equal
  have rg : ∀ k (r : List Int), rows[k]? = some r → (rows.getD k []) = r := fun k r h => by simp [List.getD, h]
  go_loopw [9, 10, 11] (fun v9 v10 v11 wr => ∃ k : Nat, k ≤ rows.length ∧ v11 = .int .i64 k ∧ v9 = .int .i64 (sAO (rows.take k)) ∧ v10 = .bool (eqB rows k) ∧ Below w3.heap.size w3 wr) (fun _ _ v _ => rows.length - (intOf v).toNat)
  case atStart => exact ⟨0, Nat.zero_le _, rfl, rfl, rfl, Below.refl _ _⟩
  case round =>
    obtain ⟨k, hk, rfl, rfl, rfl, hb⟩ := hrel
    by_cases hlt : k < rows.length
    · obtain ⟨r, hrk⟩ : ∃ r, rows[k]? = some r := ⟨_, List.getElem?_eq_getElem hlt⟩
      obtain ⟨r0, hr0⟩ : ∃ r, rows[0]? = some r := ⟨_, List.getElem?_eq_getElem (by omega)⟩
      have hs1 := sAO_snoc (rows.take k) r
      rw [← take_snoc rows k _ hrk] at hs1
      have he1 : eqB rows (k + 1) = (eqB rows k && (r.getD 1 0 == r0.getD 1 0)) := by
        unfold eqB
        rw [take_snoc rows k _ hrk, List.all_append, rg 0 r0 hr0]
        simp
      have hbd := SBD.out k hk
      obtain ⟨b0, b1, b2, b3, b4, b5, rfl⟩ := hsix r0 (List.mem_of_getElem? hr0)
      obtain ⟨a0, a1, a2, a3, a4, a5, rfl⟩ := hsix r (List.mem_of_getElem? hrk)
      have hz1 := ROW.out _ (List.mem_of_getElem? hrk)
      obtain ⟨q1, q2⟩ := hz1
      have q3 : 0 ≤ a2 := q2.1
      have q4 : a2 ≤ 1000 := q2.2
      have q5 : 0 ≤ a1 := q1.1
      have q6 : a1 ≤ 1000 := q1.2
      obtain ⟨b, o, rfl, _, hbl, f0, f1, f2, f3, f4, f5⟩ := rd_six (HR2.out _ hb) hsix hrk
      obtain ⟨b', o', hbo, _, _, g0, g1, g2, g3, g4, g5⟩ := rd_six (HR2.out _ hb) hsix hr0
      injection hbo with hbo
      injection hbo with e1 e2
      subst e1 e2
      simp only [Nat.zero_mul, Nat.add_zero] at g0 g1 g2 g3 g4 g5
      have HS1 := Lib.hid hs1
      have HE1 := Lib.hid he1
      generalize sAO (rows.take k) = S at *
      generalize eqB rows k = B at *
      have i1 : (0 : Int) ≤ k := Int.natCast_nonneg _
      have i2 : (k : Int) < rows.length := by omega
      have w1' : IntKind.i64.wrap (S + a1) = S + a1 := IntWalk.i64_in _ (by omega)
      have w2' : IntKind.i64.wrap (S + a1 + a2) = S + a1 + a2 := IntWalk.i64_in _ (by omega)
      have i3 : (0 : Int) < rows.length := by omega
      clear hs1 he1 hrk hr0 q1 q2
      go_upto_region 12 with fail
      go_quiet (fail)
      go_upto_region 13 with fail
      cases B
      · go_quiet (fail)
        go_wp2_with fail
        go_roundw
        case rel => exact ⟨k + 1, by omega, by go_num, by rw [HS1.out]; exact val_int (by simp only [List.getD_cons_succ, List.getD_cons_zero]; omega), by rw [HE1.out]; rfl, by (repeat' (first | (with_reducible exact Below.refl _ _) | (with_reducible assumption) | (with_reducible refine Below.alloc ?_ ?_ _) | (with_reducible refine Below.drew ?_) | (with_reducible refine below_drewN ?_ _) | (with_reducible refine Below.setCell ?_ ?_ _) | (with_reducible refine Below.trans ?_ (Below.mono (by assumption) ?_)) | (first | go_size | (with_reducible exact Below.size (by assumption)) | (with_reducible exact Nat.le_trans (Below.size (by assumption)) (Below.size (by assumption))) | (refine Nat.le_trans (Below.size (by assumption)) ?_; go_size))))⟩
        case measure => simp [intOf]; omega
      · cases hc : (a1 == b1)
        · go_quiet (fail)
          go_wp2_with fail
          go_roundw
          case rel => exact ⟨k + 1, by omega, by go_num, by rw [HS1.out]; exact val_int (by simp only [List.getD_cons_succ, List.getD_cons_zero]; omega), by rw [HE1.out]; simp only [List.getD_cons_succ, List.getD_cons_zero, hc]; rfl, by (repeat' (first | (with_reducible exact Below.refl _ _) | (with_reducible assumption) | (with_reducible refine Below.alloc ?_ ?_ _) | (with_reducible refine Below.drew ?_) | (with_reducible refine below_drewN ?_ _) | (with_reducible refine Below.setCell ?_ ?_ _) | (with_reducible refine Below.trans ?_ (Below.mono (by assumption) ?_)) | (first | go_size | (with_reducible exact Below.size (by assumption)) | (with_reducible exact Nat.le_trans (Below.size (by assumption)) (Below.size (by assumption))) | (refine Nat.le_trans (Below.size (by assumption)) ?_; go_size))))⟩
          case measure => simp [intOf]; omega
        · go_quiet (fail)
          go_wp2_with fail
          go_roundw
          case rel => exact ⟨k + 1, by omega, by go_num, by rw [HS1.out]; exact val_int (by simp only [List.getD_cons_succ, List.getD_cons_zero]; omega), by rw [HE1.out]; simp only [List.getD_cons_succ, List.getD_cons_zero, hc]; rfl, by (repeat' (first | (with_reducible exact Below.refl _ _) | (with_reducible assumption) | (with_reducible refine Below.alloc ?_ ?_ _) | (with_reducible refine Below.drew ?_) | (with_reducible refine below_drewN ?_ _) | (with_reducible refine Below.setCell ?_ ?_ _) | (with_reducible refine Below.trans ?_ (Below.mono (by assumption) ?_)) | (first | go_size | (with_reducible exact Below.size (by assumption)) | (with_reducible exact Nat.le_trans (Below.size (by assumption)) (Below.size (by assumption))) | (refine Nat.le_trans (Below.size (by assumption)) ?_; go_size))))⟩
          case measure => simp [intOf]; omega
    · obtain rfl : k = rows.length := by omega
      have hss : sAO (rows.take rows.length) = l.length := by rw [List.take_length]; exact HSUM.out
      rw [hss]
      have hEQ : eqB rows rows.length = true → EV = 1000 := fun h => by
        rw [← HEV.out]
        unfold eqB at h
        rw [List.take_length, List.all_eq_true] at h
        exact HEA.out _ fun r hr => by simpa using h r hr
      have hb4 := hb3.trans (hb.mono hb3.size)
      obtain ⟨S, rfl⟩ : ∃ S : Nat, s = S := ⟨s.toNat, by omega⟩
      obtain ⟨i0, hi0, hz0, hz1, hz2⟩ := info_parts evInfo
      have HR3 := Lib.hid (show ∀ W, Below wr.heap.size wr W → Rd (fun _ => True) W A2 (turnV rows) from fun W hW => HR2.out W (hb.trans (hW.mono hb.size)))
      clear hss HR2 hb3 hb SBD rg
      go_upto_region 14 with fail
      go_cut [10, 93] (fun s10 s93 wx => s93 = .bool false ∧ ∃ B, s10 = .bool B ∧ Below wr.heap.size wr wx)
      case first =>
        cases hq : eqB rows rows.length
        · go_wp2_with fail
          go_meet
          exact ⟨rfl, _, rfl, Below.refl _ _⟩
        · have dE : (EV != 1000) = false := by rw [hEQ hq]; rfl
          go_wp2_with fail
          go_meet
          exact ⟨rfl, _, rfl, Below.refl _ _⟩
      case rest =>
        obtain ⟨rfl, B, rfl, hcut⟩ := hcut
        have hb5 := hb4.trans (hcut.mono hb4.size)
        have HR4 := Lib.hid (show ∀ W, Below wc.heap.size wc W → Rd (fun _ => True) W A2 (turnV rows) from fun W hW => HR3.out W (hcut.trans (hW.mono hcut.size)))
        clear hEQ HR3 hcut hb4
        -- the list, turned
        go_upto_region 17 with fail
        go_wp2_with fail
        go_loopw [12, 13] (fun v12 v13 wr => ∃ k : Nat, k ≤ l.length ∧ v13 = .int .i64 k ∧ wr.ownsRow wc.heap.size 33 13 v12 k (evs (turnL l S k)) ∧ Below wc.heap.size wc wr) (fun _ v _ => l.length - (intOf v).toNat)
        case atStart => exact ⟨0, Nat.zero_le _, rfl, own_none _ _ _ _, Below.refl _ _⟩
        case round =>
          obtain ⟨k, hk, rfl, hown, hb⟩ := hrel
          by_cases hlt : k < l.length
          · obtain ⟨p, hp⟩ : ∃ p, (k + S) % l.length = p := ⟨_, rfl⟩
            have hpl : p < l.length := by rw [← hp]; exact Nat.mod_lt _ (by omega)
            obtain ⟨y, hy⟩ : ∃ y, l[p]? = some y := ⟨_, List.getElem?_eq_getElem hpl⟩
            have hts := turnL_succ l S k (hp ▸ hy)
            have hbw := hb5.trans (hb.mono hb5.size)
            obtain ⟨b, o, rfl, _, hbl, hcell⟩ := rd_ev (HR.out _ hbw) hy
            have hone := Ev.all_one (HO.out y (List.mem_of_getElem? hy))
            have i1 : (0 : Int) ≤ k := Int.natCast_nonneg _
            have i2 : (k : Int) < l.length := by omega
            have i3 : (0 : Int) ≤ p := Int.natCast_nonneg _
            have i4 : (p : Int) < l.length := by omega
            have i5 : (0 : Int) ≤ S := Int.natCast_nonneg _
            have i6 : (S : Int) ≤ 255 := hs.2
            have emod : ((k : Int) + (S : Int)) % (l.length : Int) = p := by rw [← hp, Int.natCast_emod, Int.natCast_add]
            have HT := Lib.hid hts
            have HONE := Lib.hid hone
            obtain ⟨yt, ya, yw, n1, n2, n3, n4, n5, n6, n7, n8, n9, n10⟩ := y
            simp only [Ev.cells] at hcell HONE
            have hbr := Below.refl wr.heap.size wr
            have hbz := hb.size
            clear hts hone hy hp
            go_wp2_with (first | (refine wl_load 33 _ (b) (o + p * 13) ([.int .i64 yt, n1, n2, n3, n4, n5, n6, n7, n8, n9, n10, .int .i64 ya, .int .i64 yw]) _ ?_ ?_ Try.underlying33 ?_ ?_ ?_; (focus rfl); (focus (exact hcell)); (focus rfl); (focus kernel_rfl)) | ((at_builtin; refine wpList_append_rd _ rfl _ _ _ rfl wc.heap.size 33 i0 _ 13 160 Try.underlying24 hi0 hz0 hz1 hz2 rfl (by omega) _ _ _ rfl (own_keep (own_keep hown (Ch.of_below hbr (fun _ => False)) (fun _ _ _ e => e)) ((Ch.refl (fun _ => False) _).alloc _) (fun _ _ _ e => e)) (some ⟨_, 0, none⟩) 1 1 [.int .i64 yt, n1, n2, n3, n4, n5, n6, n7, n8, n9, n10, .int .i64 ya, .int .i64 yw] rfl (Rd.of_blk (G := fun _ => True) (Blk.new _ _ [.int .i64 yt, n1, n2, n3, n4, n5, n6, n7, n8, n9, n10, .int .i64 ya, .int .i64 yw]) (List.prefix_refl _) trivial) (fun h => by cases h) rfl (HONE.out) (by unfold maxLen; omega) (by omega) (by have := Below.size hbr; simp; omega) ?_)))
            intro v3 w3' hown3 hch3 hat3
            have hb3' : Below wc.heap.size wc w3' := (hb.alloc hb.size _).trans (hch3.below (fun j hj e => ownBlock_ge hown e) (by have := hb.size; simp; omega))
            have hown4 : w3'.ownsRow wc.heap.size 33 13 v3 (k + 1) (evs (turnL l S (k + 1))) := by rw [HT.out, evs_append, evs_one]; exact hown3
            clear hch3 hat3 hown hown3
            go_wp2_with fail
            go_roundw
            case rel => exact ⟨k + 1, by omega, by go_num, hown4, hb3'⟩
            case measure => simp [intOf]; omega
          · obtain rfl : k = l.length := by omega
            have hb6 := hb5.trans (hb.mono hb5.size)
            obtain ⟨A6, c6, rfl, hc6, hA6⟩ := own_slice hown
            have hcap := own_cap hown
            have hR6 := (Rd.of_own hown).mono (G' := fun _ => True) (fun _ _ _ => trivial)
            have hone6 : ∀ e ∈ turnL l S l.length, e.one := fun e he => HO.out e (turnL_mem l S _ e he)
            have hlen6 := turnL_len l S l.length (Nat.le_refl _)
            have htu := lturns_ok A6 (turnL l S l.length) l.length c6 A2 rows rows.length c2 0 wr (G2 := fun _ => True) hR6 hlen6 (by omega) hone6 (HR4.out _ hb) rfl hc2 hc3 hsix
            have hev := fun W hW => leven_ok A6 (turnL l S l.length) l.length c6 EV 0 W (G := fun _ => True) hW hlen6 (by omega) hone6
            rw [show turnsB (turnL l S l.length) rows 0 = true by unfold turnsB; rw [HM1.out, HM3.out]; simp] at htu
            rw [show ((evenR (turnL l S l.length) == EV) && (errF (turnL l S l.length) == 0)) = true by rw [HM2.out, HM3.out, HEV.out]; simp] at hev
            clear hown hone6 hlen6 HR4 hb
            go_wp2_with fail
            refine htu.mono ?_
            rintro e w7 ⟨rfl, hb7⟩
            have hR7 := hR6.keep (Ch.of_below hb7 (fun _ => False)) (fun _ _ _ e => e)
            have hb7 := hb6.trans (hb7.mono hb6.size)
            clear htu hb6 hR6
            go_wp2_with fail
            refine (hev _ hR7).mono ?_
            rintro e w8 ⟨rfl, hb8⟩
            have hb8 := hb7.trans (hb8.mono hb7.size)
            clear hev hR7 hb7 hb5
            go_wp2_with fail
            -- the events that are answered as they were asked
            go_loopw [14, 15] (fun v14 v15 wr => ∃ (k n : Nat), k ≤ l.length ∧ n = (inL (l.take k)).length ∧ v15 = .int .i64 k ∧ wr.ownsRow w8.heap.size 33 13 v14 n (evs (inL (l.take k))) ∧ Below w8.heap.size w8 wr) (fun _ v _ => l.length - (intOf v).toNat)
            case atStart => exact ⟨0, 0, Nat.zero_le _, rfl, rfl, own_none _ _ _ _, Below.refl _ _⟩
            case round =>
              obtain ⟨k, n, hk, hn, rfl, hown, hb⟩ := hrel
              by_cases hlt : k < l.length
              · obtain ⟨y, hy⟩ : ∃ y, l[k]? = some y := ⟨_, List.getElem?_eq_getElem hlt⟩
                have hbw := hb8.trans (hb.mono hb8.size)
                obtain ⟨b, o, rfl, _, hbl, hcell⟩ := rd_ev (HR.out _ hbw) hy
                have hym := List.mem_of_getElem? hy
                have hone := all_oneCell_toArray (Ev.all_one (HO.out y hym))
                have hone2 := Ev.all_one (show (inE y).one from HO.out y hym)
                have hin := inL_snoc (l.take k) y
                rw [← take_snoc l k y hy] at hin
                have hil := inL_len (l.take k)
                rw [List.length_take] at hil
                obtain ⟨q1, q2, q3, q4, q5⟩ := okEv_iff.1 (HK.out y hym)
                have HIN := Lib.hid hin
                have HN := Lib.hid hn
                have hn60 : n ≤ 60 := by omega
                have i1 : (0 : Int) ≤ k := Int.natCast_nonneg _
                have i2 : (k : Int) < l.length := by omega
                have HONE := Lib.hid hone
                have HONE2 := Lib.hid hone2
                generalize inL (l.take k) = L at *
                obtain ⟨yt, ya, yw, n1, n2, n3, n4, n5, n6, n7, n8, n9, n10⟩ := y
                simp only [Ev.cells, inE] at hcell HONE HONE2
                simp only at q1 q2 q3 q4
                have hbz := hb.size
                clear hone hone2 hy hin hn q5 hil
                go_upto_region 28 with (first | (refine wl_load 33 _ (b) (o + k * 13) ([.int .i64 yt, n1, n2, n3, n4, n5, n6, n7, n8, n9, n10, .int .i64 ya, .int .i64 yw]) _ ?_ ?_ Try.underlying33 ?_ ?_ ?_; (focus rfl); (focus (exact hcell)); (focus rfl); (focus kernel_rfl)) | (refine wl_fresh 33 _ _ _ ([.int .i64 yt, n1, n2, n3, n4, n5, n6, n7, n8, n9, n10, .int .i64 ya, .int .i64 yw].toArray) ?_ ?_ ?_ ?_ ?_ ?_; (focus rfl); (focus rfl); (focus kernel_rfl); (focus rfl); (focus (exact HONE.out))))
                have OLT := Lib.hid (show ∀ j, u14.ownBlock = some j → j < wr.heap.size from fun j hj => own_lt hown hj)
                have hY := Blk.new wr 33 [.int .i64 yt, n1, n2, n3, n4, n5, n6, n7, n8, n9, n10, .int .i64 ya, .int .i64 yw]
                have hownY := own_keep hown ((Ch.refl (fun _ => False) _).alloc (.cells ([.int .i64 yt, n1, n2, n3, n4, n5, n6, n7, n8, n9, n10, .int .i64 ya, .int .i64 yw]).toArray 33)) (fun _ _ _ e => e)
                have hbY : Below w8.heap.size w8 (wr.alloc (.cells ([.int .i64 yt, n1, n2, n3, n4, n5, n6, n7, n8, n9, n10, .int .i64 ya, .int .i64 yw]).toArray 33)) := hb.alloc hb.size _
                generalize wr.alloc (.cells ([.int .i64 yt, n1, n2, n3, n4, n5, n6, n7, n8, n9, n10, .int .i64 ya, .int .i64 yw]).toArray 33) = wy at *
                clear hcell hown HONE
                by_cases ha : ya < 549755813888
                · have h2 := HIN.out
                  rw [if_pos ha] at h2
                  have H2 := Lib.hid h2
                  have hY2 : Blk (wy.setCell ⟨wr.heap.size, 12, none⟩ (.int .i64 (2 * ya))) wr.heap.size 33 [.int .i64 yt, n1, n2, n3, n4, n5, n6, n7, n8, n9, n10, .int .i64 ya, .int .i64 (2 * ya)] := hY.set 12 (.int .i64 (2 * ya))
                  have hchY := (Ch.refl (fun j => j = wr.heap.size) wy).setCell (p := ⟨wr.heap.size, 12, none⟩) (.inl rfl) (.int .i64 (2 * ya))
                  have hownY2 := own_keep hownY hchY (fun j hj _ e => by
                    have := OLT.out j hj
                    omega)
                  have hbY2 : Below w8.heap.size w8 (wy.setCell ⟨wr.heap.size, 12, none⟩ (.int .i64 (2 * ya))) := hbY.trans (hchY.below (fun j _ e => by omega) hbY.size)
                  have c11 := hY.cell 11
                  have c12 := hY.cell 12
                  have f12 := hY.frozen 12
                  simp only [List.getElem?_cons_succ, List.getElem?_cons_zero] at c11 c12
                  have w2' : IntKind.i64.wrap (2 * ya) = 2 * ya := IntWalk.i64_in _ (by omega)
                  clear h2 HIN
                  go_upto_region 30 with fail
                  have hrY := range_blk hY2
                  generalize wy.setCell ⟨wr.heap.size, 12, none⟩ (.int .i64 (2 * ya)) = wz at *
                  have hbr := Below.refl wz.heap.size wz
                  have hbz2 := hbY2.size
                  clear c11 c12 f12 hY hownY hbY hY2 w2'
                  go_wp2_with (first | (refine wl_load 33 _ (wr.heap.size) (0) ([.int .i64 yt, n1, n2, n3, n4, n5, n6, n7, n8, n9, n10, .int .i64 ya, .int .i64 (2 * ya)]) _ ?_ ?_ Try.underlying33 ?_ ?_ ?_; (focus rfl); (focus (exact hrY)); (focus rfl); (focus kernel_rfl)) | ((at_builtin; refine wpList_append_rd _ rfl _ _ _ rfl w8.heap.size 33 i0 _ 13 160 Try.underlying24 hi0 hz0 hz1 hz2 rfl (by omega) _ _ _ rfl (own_keep (own_keep hownY2 (Ch.of_below hbr (fun _ => False)) (fun _ _ _ e => e)) ((Ch.refl (fun _ => False) _).alloc _) (fun _ _ _ e => e)) (some ⟨_, 0, none⟩) 1 1 [.int .i64 yt, n1, n2, n3, n4, n5, n6, n7, n8, n9, n10, .int .i64 ya, .int .i64 (2 * ya)] rfl (Rd.of_blk (G := fun _ => True) (Blk.new _ _ [.int .i64 yt, n1, n2, n3, n4, n5, n6, n7, n8, n9, n10, .int .i64 ya, .int .i64 (2 * ya)]) (List.prefix_refl _) trivial) (fun h => by cases h) rfl (HONE2.out) (by unfold maxLen; omega) (by omega) (by have := Below.size hbr; simp; omega) ?_)))
                  intro v3 w3' hown3 hch3 hat3
                  have hb3' : Below w8.heap.size w8 w3' := (hbY2.alloc hbY2.size _).trans (hch3.below (fun j hj e => ownBlock_ge hownY2 e) (by have := hbY2.size; simp; omega))
                  have hown4 : w3'.ownsRow w8.heap.size 33 13 v3 (n + 1) (evs (inL (l.take (k + 1)))) := by rw [H2.out, evs_append, evs_one]; exact hown3
                  clear hch3 hat3 hownY2 hown3
                  go_wp2_with fail
                  go_roundw
                  case rel => exact ⟨k + 1, n + 1, by omega, by rw [H2.out, List.length_append, ← HN.out]; rfl, by go_num, hown4, hb3'⟩
                  case measure => simp [intOf]; omega
                · have h2 := HIN.out
                  rw [if_neg ha] at h2
                  have H2 := Lib.hid h2
                  have c11 := hY.cell 11
                  simp only [List.getElem?_cons_succ, List.getElem?_cons_zero] at c11
                  clear h2 HIN
                  go_wp2_with fail
                  go_roundw
                  case rel => exact ⟨k + 1, n, by omega, by rw [H2.out]; exact HN.out, by go_num, by rw [H2.out]; exact hownY, hbY⟩
                  case measure => simp [intOf]; omega
              · obtain rfl : k = l.length := by omega
                rw [List.take_length] at hn hown
                have hb9 := hb8.trans (hb.mono hb8.size)
                obtain ⟨A9, c9, rfl, hc9, hA9⟩ := own_slice hown
                have hcap9 := own_cap hown
                have hR9 := (Rd.of_own hown).mono (G' := fun _ => True) (fun _ _ _ => trivial)
                have HR9 := Lib.hid (show ∀ W, Below wr.heap.size wr W → Rd (fun _ => True) W A9 (evs (inL l)) from fun W hW => hR9.keep (Ch.of_below hW (fun _ => False)) (fun _ _ _ e => e))
                have hil := inL_len l
                have herr : errF (inL l) = 0 := by
                  unfold errF
                  rw [if_neg (by omega), if_pos (List.all_eq_true.2 (inL_ok HK.out))]
                have hp : ∀ (k : Nat), k < n → ((passR (inL l) (k : Nat) == 0) && (passE (inL l) (k : Nat) == 0)) = true := fun k hk => by
                  obtain ⟨x, hx⟩ : ∃ x, (inL l)[k]? = some x := ⟨_, List.getElem?_eq_getElem (by omega)⟩
                  have e1 : passE (inL l) (k : Nat) = 0 := by unfold passE; rw [if_neg (by omega), if_neg (by omega)]
                  have e2 : passR (inL l) (k : Nat) = 0 := by
                    unfold passR passN
                    rw [if_neg (by omega), Int.toNat_natCast, hx]
                    simp only
                    rw [inL_pas HK.out x (List.mem_of_getElem? hx)]
                    rfl
                  rw [e1, e2]; rfl
                have hpc := fun (k : Nat) (hk : k < n) W hW => lpasses_ok A9 (inL l) n c9 (k : Nat) 0 0 W (HR9.out W hW) hn.symm (by omega) (inL_one HO.out)
                have HP := Lib.hid hp
                have HPC := Lib.hid hpc
                have hn60 : n ≤ 60 := by omega
                clear hR9 hown hb herr hp hpc hn hil
                go_wp2_with fail
                go_loopw [17] (fun v wx => ∃ k : Nat, k ≤ n ∧ v = .int .i64 k ∧ Below wr.heap.size wr wx) (fun v _ => n - (intOf v).toNat)
                case atStart => exact ⟨0, Nat.zero_le _, rfl, Below.refl _ _⟩
                case round =>
                  obtain ⟨k, hk, rfl, hbx⟩ := hrel
                  by_cases hlt3 : k < n
                  · have hck := HPC.out k hlt3 _ hbx
                    rw [HP.out k hlt3] at hck
                    have i1 : (0 : Int) ≤ k := Int.natCast_nonneg _
                    have i2 : (k : Int) < n := by omega
                    go_wp2_with (go_at_call 10; refine hck.mono ?_; rintro e w5 ⟨rfl, hb6⟩)
                    go_roundw
                    case rel => exact ⟨k + 1, by omega, by go_num, hbx.trans (hb6.mono hbx.size)⟩
                    case measure => simp [intOf]; omega
                  · obtain rfl : k = n := by omega
                    have hbf := hb9.trans (hbx.mono hb9.size)
                    clear hb9 hbx
                    go_wp2_with fail
                    refine (known_ok _).mono ?_
                    rintro e w6 ⟨rfl, hb6⟩
                    go_wp2_with fail
                    go_ret
                    exact ⟨rfl, hbf.trans (hb6.mono hbf.size)⟩
end FairHolds
end Go.Proofs.Ythikpceckiapjaa
