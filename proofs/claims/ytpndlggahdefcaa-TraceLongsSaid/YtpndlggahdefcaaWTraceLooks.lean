/-
  The walk of TraceLooks: it returns true for every list of things, every word and every thread.
-/
import Derived.Test.YtpndlggahdefcaaK13
import Derived.Test.YtpndlggahdefcaaRTr5
namespace Go.Proofs.Ytpndlggahdefcaa
open Go.RowKit
set_option linter.unusedSimpArgs false
set_option linter.unusedVariables false
namespace TraceLooks

/-- the list that came in -/
structure Ls (w : World) (l : List Dd) (A : Option Addr) (c : Nat) (wr : World) : Prop where
  below : Below w.heap.size w wr
  rl : Rd (fun _ => True) wr A (dds l)
  l60 : l.length ≤ 60
  wf : ∀ x ∈ l, x.wf
  ac : A = none → c = 0
theorem Ls.next {w wr w' : World} {l : List Dd} {A : Option Addr} {c : Nat} (h : Ls w l A c wr) (hb : Below wr.heap.size wr w') : Ls w l A c w' :=
  ⟨h.below.trans (hb.mono h.below.size), h.rl.keep (Ch.of_below hb (fun _ => False)) (fun _ _ _ e => e), h.l60, h.wf, h.ac⟩
def LPost (w : World) (l : List Dd) (A : Option Addr) (c : Nat) (wr : World) (e : Ending) (w' : World) : Prop := e = .returned (.bool true) ∧ Ls w l A c w' ∧ Below wr.heap.size wr w'
theorem Ls.post {w wr : World} {l : List Dd} {A : Option Addr} {c : Nat} (h : Ls w l A c wr) {f : FuncId} {args : Array Value} {b : Bool} (hb : b = true) (hc : Calls Try.prog f args wr fun e w' => e = .returned (.bool b) ∧ Below wr.heap.size wr w') : Calls Try.prog f args wr (LPost w l A c wr) :=
  hc.mono fun _ _ ⟨e1, e2⟩ => ⟨by rw [e1, hb], h.next e2, e2⟩
theorem Ls.waits {w wr : World} {l : List Dd} {A : Option Addr} {c : Nat} (h : Ls w l A c wr) {A2 : Option Addr} {want : List Wt} {n2 c2 : Nat} {no : Int} (hv : wtV l = (want, no)) (h3 : Rd (fun _ => True) wr A2 (wts want)) (h4 : want.length = n2) (h5 : n2 ≤ 60) (h6 : n2 ≤ c2) :
    Calls Try.prog 25 #[.slice A l.length c, .int .i64 no, .slice A2 n2 c2] wr (LPost w l A c wr) :=
  h.post (decide_eq_true hv) (lwaits_ok A A2 want l l.length c n2 c2 no wr (h.rl.mono (fun b hb _ => hb)) rfl (by have := h.l60; omega) h3 h4 (by omega) h6)
theorem Ls.changes {w wr : World} {l : List Dd} {A : Option Addr} {c : Nat} (h : Ls w l A c wr) {x : Int} {A2 : Option Addr} {want : List Int} {n2 c2 : Nat} {no : Int} (hv : chV l x = (want, no)) (h3 : Rd (fun _ => True) wr A2 (ints want)) (h4 : want.length = n2) (h5 : n2 ≤ 60) (h6 : n2 ≤ c2) :
    Calls Try.prog 26 #[.slice A l.length c, .int .i64 x, .int .i64 no, .slice A2 n2 c2] wr (LPost w l A c wr) :=
  h.post (decide_eq_true hv) (lchanges_ok A A2 want l x l.length c n2 c2 no wr (h.rl.mono (fun b hb _ => hb)) rfl (by have := h.l60; omega) h3 h4 (by omega) h6)
theorem Ls.of {w wr : World} {l : List Dd} {A : Option Addr} {c : Nat} (h : Ls w l A c wr) {t : Int} {A2 : Option Addr} {want : List Dd} {n2 c2 : Nat} {no : Int} (hv : ofV l t = (want, no)) (h3 : Rd (fun _ => True) wr A2 (dds want)) (h4 : want.length = n2) (h5 : n2 ≤ 60) (h6 : n2 ≤ c2) :
    Calls Try.prog 27 #[.slice A l.length c, .int .i64 t, .int .i64 no, .slice A2 n2 c2] wr (LPost w l A c wr) :=
  h.post (decide_eq_true hv) (lof_ok A A2 want l t l.length c n2 c2 no wr (h.rl.mono (fun b hb _ => hb)) rfl (by have := h.l60; omega) h.ac h3 h4 (by omega) h6)
theorem Ls.known {w wr : World} {l : List Dd} {A : Option Addr} {c : Nat} (h : Ls w l A c wr) : Calls Try.prog 8 #[] wr (LPost w l A c wr) := h.post rfl (known_ok wr)
theorem Ls.checks {w wr : World} {l : List Dd} {A : Option Addr} {c : Nat} (h : Ls w l A c wr) {N : Addr} (hN : Rd (fun _ => True) wr (some N) (u64s [0])) (hv : wrongF l = 2) :
    Calls Try.prog 19 #[.slice (some N) 1 1, .slice A l.length c, .int .i64 0, .int .i64 2] wr (LPost w l A c wr) :=
  h.post (decide_eq_true (by unfold ckV; rw [hv]; rfl)) (lchecks_ok (some N) A [0] l 1 1 l.length c 0 2 wr (hN.mono (fun b hb _ => hb)) rfl (by omega) (by omega) (by decide) (h.rl.mono (fun b hb _ => hb)) rfl (by have := h.l60; omega) h.wf)
theorem wrong_valid {l : List Dd} (h : l.length ≤ 60) : (validB l = true → wrongF l = 0) ∧ (validB l = false → wrongF l = 2) := by
  unfold wrongF
  rw [if_neg (by omega)]
  refine ⟨fun h => ?_, fun h => ?_⟩
  · rw [if_pos h]
  · rw [h]; rfl
set_option maxRecDepth 100000 in
set_option maxHeartbeats 4000000 in
theorem walk (A1 : Option Addr) (n1 c1 : Nat) (x1 : List (List Value)) (l1 : x1.length = n1) (m1 : n1 ≤ c1) (b1 : c1 ≤ 9223372036854775807) (z1 : A1 = none → c1 = 0) (x : Int) (_wx : (Lit.int .i64 x).wf = true) (t : Int) (_wt : (Lit.int .i64 t).wf = true) (w : World)
    (r1 : Rd (fun b => b < w.heap.size) w A1 x1.flatten) (y1 : ∀ r ∈ x1, Fit ddLeaf r) :
    Calls Try.prog 4 #[.slice A1 n1 c1, .int .i64 x, .int .i64 t] w fun e w' => e = .returned (.bool true) ∧ Below w.heap.size w w' := by
  obtain ⟨l, rfl, hwf⟩ := dds_of y1
  rw [List.length_map] at l1
  subst l1
  have hr : Rd (fun b => b < w.heap.size) w A1 (dds l) := r1
  clear r1 y1 _wx _wt
  by_cases hs : l.length > 60
  · have hk := known_ok w
    have d1 : decide ((l.length : Int) > 60) = true := decide_eq_true (by omega)
    clear hr hs
    go_enter Try.func4, Try.ntmps4
    go_wp2_with fail
    refine hk.mono ?_
    rintro e w1 ⟨rfl, hb⟩
    go_wp2_with fail
    go_ret
    exact ⟨rfl, hb⟩
  · have d1 : decide ((l.length : Int) > 60) = false := decide_eq_false (by omega)
    have hl60 : l.length ≤ 60 := by omega
    have hS0 : Ls w l A1 c1 w := ⟨Below.refl _ _, hr.mono (fun _ _ _ => trivial), hl60, hwf, z1⟩
    have hv := valid_ok A1 l l.length c1 w hr rfl (by omega)
    have hrv := fun W (h : Ls w l A1 c1 W) => rvalid_ok A1 l l.length c1 W (h.rl.mono (fun b hb _ => hb)) rfl (by omega)
    have HW := Lib.hid (wrong_valid hl60)
    have HRW := Lib.hid (fun W (h : Ls w l A1 c1 W) (hR : ∀ d ∈ l, rightB d = true) => rwaits_ok A1 l l.length c1 W (h.rl.mono (fun b hb _ => hb)) rfl (by omega) hR)
    have HRO := Lib.hid (fun W (h : Ls w l A1 c1 W) => rof_ok A1 l l.length c1 t W (h.rl.mono (fun b hb _ => hb)) rfl (by omega))
    have HRD := Lib.hid hr
    clear hs hr hwf
    cases hvb : validB l
    · rw [hvb] at hv hrv
      have hw2 := HW.out.2 hvb
      have K1 := Lib.hid (show wtV l = ([], 2) by unfold wtV; rw [hw2]; rfl)
      have K2 := Lib.hid (show chV l x = ([], 2) by unfold chV; rw [hw2]; rfl)
      have K3 := Lib.hid (show ofV l t = ([], 2) by unfold ofV; rw [hw2]; rfl)
      have K4 := Lib.hid hw2
      clear hvb hw2
      go_enter Try.func4, Try.ntmps4
      go_wp2_with fail
      refine hv.mono ?_
      rintro e w1 ⟨rfl, hb1⟩
      have hS1 := hS0.next hb1
      have hc := hrv _ hS1
      clear hv hrv hS0 hb1
      go_wp2_with fail
      refine hc.mono ?_
      rintro e w2 ⟨rfl, hb2⟩
      have hS2 := hS1.next hb2
      clear hc hS1 hb2
      go_wp2_with fail
      refine (hS2.waits (n2 := 0) (c2 := 0) K1.out rd_none rfl (by omega) (by omega)).mono ?_
      rintro e w3 ⟨rfl, hS3, -⟩
      clear hS2
      go_wp2_with fail
      refine (hS3.changes (n2 := 0) (c2 := 0) K2.out rd_none rfl (by omega) (by omega)).mono ?_
      rintro e w4 ⟨rfl, hS4, -⟩
      clear hS3
      go_wp2_with fail
      refine (hS4.of (n2 := 0) (c2 := 0) K3.out rd_none rfl (by omega) (by omega)).mono ?_
      rintro e w5 ⟨rfl, hS5, -⟩
      clear hS4
      have hR5 : Rd (fun _ => True) (w5.alloc (.cells (u64s [0]).toArray 30)) (some ⟨w5.heap.size, 0, none⟩) (u64s [0]) := Rd.of_blk (Blk.new w5 30 (u64s [0])) (List.prefix_refl _) trivial
      have hS6 := hS5.next ((Below.refl _ _).alloc (Nat.le_refl _) (.cells (u64s [0]).toArray 30))
      have hck := hS6.checks hR5 K4.out
      have hS7 := Lib.hid hS6
      clear hS5 hR5 hS6
      go_wp2_with fail
      refine hck.mono ?_
      rintro e w6 ⟨rfl, hS8, -⟩
      clear hck hS7
      go_wp2_with fail
      refine hS8.known.mono ?_
      rintro e w7 ⟨rfl, hS9, -⟩
      have hbf := hS9.below
      clear hS8 hS9
      go_wp2_with fail
      go_ret
      exact ⟨rfl, hbf⟩
    · rw [hvb] at hv hrv
      have hw0 := HW.out.1 hvb
      have HR := Lib.hid (wf_right hw0)
      have K1 := Lib.hid (show wtV l = (refW l l.length, 0) by unfold wtV; rw [if_neg (by omega)])
      have K2 := Lib.hid (show chV l x = if x < 0 ∨ 65536 ≤ x then ([], 2) else (chgL l x l.length, 0) by unfold chV; rw [if_neg (by omega)])
      have K3 := Lib.hid (show ofV l t = if t < 0 ∨ 64 ≤ t then ([], 2) else (l.filter (keepB t), 0) by unfold ofV; rw [if_neg (by omega)])
      clear hvb hw0
      go_enter Try.func4, Try.ntmps4
      go_wp2_with fail
      refine hv.mono ?_
      rintro e w1 ⟨rfl, hb1⟩
      have hS1 := hS0.next hb1
      have hc := hrv _ hS1
      clear hv hrv hS0 hb1
      go_wp2_with fail
      refine hc.mono ?_
      rintro e w2 ⟨rfl, hb2⟩
      have hS2 := hS1.next hb2
      have hc2 := HRW.out _ hS2 HR.out
      clear hc hS1 hb2
      go_wp2_with fail
      refine hc2.mono ?_
      rintro e w3 ⟨hb3, v, rfl, hown⟩
      obtain ⟨A, c, rfl, q1, q2, q3⟩ := own_rd hown
      have hS3 := hS2.next hb3
      have hle := refW_len l l.length
      have hwt := hS3.waits K1.out q3 rfl (by omega) q1
      clear hc2 hS2 hb3 hown q3 q1 q2
      go_wp2_with fail
      refine hwt.mono ?_
      rintro e w4 ⟨rfl, hS4, -⟩
      clear hwt hS3
      obtain ⟨BAD, hBAD⟩ : ∃ BAD : Bool, BAD = decide (x < 0 ∨ 65536 ≤ x) := ⟨_, rfl⟩
      have HBAD := Lib.hid hBAD
      clear hBAD
      go_upto_region 10 with fail
      go_cut [52] (fun s52 wx => s52 = .bool BAD ∧ w4 = wx)
      case first =>
        by_cases h1 : x < 0
        · have d2 : decide (x < 0) = true := decide_eq_true h1
          obtain rfl : BAD = true := by rw [HBAD.out]; exact decide_eq_true (.inl h1)
          clear h1
          go_wp2_with fail
          go_meet
          exact ⟨rfl, rfl⟩
        · have d2 : decide (x < 0) = false := decide_eq_false h1
          by_cases h2 : 65536 ≤ x
          · have d3 : decide (x ≥ 65536) = true := decide_eq_true h2
            obtain rfl : BAD = true := by rw [HBAD.out]; exact decide_eq_true (.inr h2)
            clear h1 h2
            go_wp2_with fail
            go_meet
            exact ⟨rfl, rfl⟩
          · have d3 : decide (x ≥ 65536) = false := decide_eq_false (by omega)
            obtain rfl : BAD = false := by rw [HBAD.out]; exact decide_eq_false (by omega)
            clear h1 h2
            go_wp2_with fail
            go_meet
            exact ⟨rfl, rfl⟩
      case rest =>
        obtain ⟨rfl, rfl⟩ := hcut
        go_upto_if 52 with fail
        go_cut [] (fun wx => Ls w l A1 c1 wx)
        case first =>
          cases BAD
          · have hx : ¬ (x < 0 ∨ 65536 ≤ x) := by have := HBAD.out; simpa using this.symm
            have KK := Lib.hid (show chV l x = (chgL l x l.length, 0) by rw [K2.out, if_neg hx])
            obtain ⟨i0, hi0, hz0, hz1, hz2⟩ := info_parts intInfo
            obtain ⟨wb, rfl⟩ : ∃ wb : World, wb = w4 := ⟨_, rfl⟩
            clear hx
            go_wp2_with fail
            go_loopw [8, 59] (fun v8 v59 wr => ∃ k : Nat, k ≤ l.length ∧ v59 = .int .i64 k ∧ wr.ownsRow wb.heap.size 3 1 v8 (chgL l x k).length (ints (chgL l x k)) ∧ Below wb.heap.size wb wr) (fun _ v _ => l.length - (intOf v).toNat)
            case atStart => exact ⟨0, Nat.zero_le _, rfl, own_none _ _ _ _, Below.refl _ _⟩
            case round =>
              obtain ⟨k, hk, rfl, hown, hb⟩ := hrel
              by_cases hlt : k < l.length
              · obtain ⟨dd, hd⟩ : ∃ d, l[k]? = some d := ⟨_, List.getElem?_eq_getElem hlt⟩
                obtain ⟨b0, o, rfl, _, _, hcell⟩ := rd_dd (hS4.rl.keep (Ch.of_below hb (fun _ => False)) (fun _ _ _ e => e)) hd
                have hchg := fun W => rchanges_ok dd x W
                have HR2 := Lib.hid (chgL_succ l x k hd)
                have HLN := chgL_len l x k
                obtain ⟨t', kd, y, bb, aa, wt, en⟩ := dd
                have c0 := hcell 0 _ rfl
                have c1' := hcell 1 _ rfl
                have c2 := hcell 2 _ rfl
                have c3 := hcell 3 _ rfl
                have c4 := hcell 4 _ rfl
                have c5 := hcell 5 _ rfl
                have c6 := hcell 6 _ rfl
                simp only [Nat.add_zero] at c0
                simp only [Dd.val, Dd.cells] at hchg
                have i1 : (0 : Int) ≤ k := Int.natCast_nonneg _
                have i2 : (k : Int) < l.length := by omega
                clear hcell hd
                obtain ⟨C, hC⟩ : ∃ C, chB ⟨t', kd, y, bb, aa, wt, en⟩ x = C := ⟨_, rfl⟩
                rw [hC] at hchg HR2
                have hcw := hchg wr
                clear hC hchg
                go_wp2_with fail
                refine hcw.mono ?_
                rintro e w5 ⟨rfl, hb5⟩
                have hown5 := own_keep hown (Ch.of_below hb5 (fun _ => False)) (fun _ _ _ e => e)
                have hbB := hb.trans (hb5.mono hb.size)
                have hzB := hbB.size
                clear hcw hown hb5 hb c0 c1' c2 c3 c4 c5 c6
                cases C
                · have HN := Lib.hid (show chgL l x (k + 1) = chgL l x k by rw [HR2.out]; simp)
                  go_wp2_with fail
                  go_roundw
                  case rel => exact ⟨k + 1, by omega, by go_num, by rw [HN.out]; exact hown5, hbB⟩
                  case measure => simp [intOf]; omega
                · have HN := Lib.hid (show chgL l x (k + 1) = chgL l x k ++ [(k : Int)] by rw [HR2.out]; simp)
                  have hbr := Below.refl w5.heap.size w5
                  go_wp2_with ((at_builtin; refine wpList_append_rd _ rfl _ _ _ rfl wb.heap.size 3 i0 _ 1 8 Try.underlying68 hi0 hz0 hz1 hz2 rfl (by omega) _ _ _ rfl (own_keep (own_keep hown5 (Ch.of_below hbr (fun _ => False)) (fun _ _ _ e => e)) ((Ch.refl (fun _ => False) _).alloc _) (fun _ _ _ e => e)) (some ⟨_, 0, none⟩) 1 1 [.int .i64 (k : Int)] rfl (Rd.of_blk (G := fun _ => True) (Blk.new _ _ [.int .i64 (k : Int)]) (List.prefix_refl _) trivial) (fun h => by cases h) rfl (by simp [Value.oneCell']) (by unfold maxLen; omega) (by omega) (by have := Below.size hbr; simp; omega) ?_))
                  intro v3 w6 hown3 hch3 hat3
                  have hb3 : Below wb.heap.size wb w6 := (hbB.alloc hbB.size _).trans (hch3.below (fun j hj e => ownBlock_ge hown5 e) (by simp; omega))
                  have hown4 : w6.ownsRow wb.heap.size 3 1 v3 (chgL l x (k + 1)).length (ints (chgL l x (k + 1))) := by rw [HN.out]; simpa [ints] using hown3
                  clear hch3 hat3 hown5 hown3
                  go_wp2_with fail
                  go_roundw
                  case rel => exact ⟨k + 1, by omega, by go_num, hown4, hb3⟩
                  case measure => simp [intOf]; omega
              · obtain rfl : k = l.length := by omega
                obtain ⟨A, c, rfl, q1, q2, q3⟩ := own_rd hown
                have hS5 := hS4.next hb
                have hle := chgL_len l x l.length
                have hcc := hS5.changes KK.out q3 rfl (by omega) q1
                clear hown q3 q1 q2 hS4 hb
                go_wp2_with fail
                refine hcc.mono ?_
                rintro e w6 ⟨rfl, hS6, -⟩
                clear hcc hS5
                go_wp2_with fail
                go_meet
                exact hS6
          · have hx : x < 0 ∨ 65536 ≤ x := by have := HBAD.out; simpa using this.symm
            have KK := Lib.hid (show chV l x = ([], 2) by rw [K2.out, if_pos hx])
            clear hx
            go_wp2_with fail
            refine (hS4.changes (n2 := 0) (c2 := 0) KK.out rd_none rfl (by omega) (by omega)).mono ?_
            rintro e w5 ⟨rfl, hS5, -⟩
            clear hS4
            go_wp2_with fail
            go_meet
            exact hS5
        case rest =>
          have hS5 := hcut
          clear hS4 hcut
          by_cases ht : t < 0 ∨ 64 ≤ t
          · have KK := Lib.hid (show ofV l t = ([], 2) by rw [K3.out, if_pos ht])
            have fin : ∀ W, Ls w l A1 c1 W → Calls Try.prog 27 #[.slice A1 l.length c1, .int .i64 t, .int .i64 2, .slice none 0 0] W (LPost w l A1 c1 W) := fun W h => h.of (n2 := 0) (c2 := 0) KK.out rd_none rfl (by omega) (by omega)
            have hfin := fin _ hS5
            clear fin
            by_cases h1 : t < 0
            · have d2 : decide (t < 0) = true := decide_eq_true h1
              clear h1 ht
              go_wp2_with fail
              refine hfin.mono ?_
              rintro e w6 ⟨rfl, hS6, -⟩
              clear hfin hS5
              go_wp2_with fail
              refine hS6.known.mono ?_
              rintro e w7 ⟨rfl, hS9, -⟩
              have hbf := hS9.below
              clear hS6 hS9
              go_wp2_with fail
              go_ret
              exact ⟨rfl, hbf⟩
            · have d2 : decide (t < 0) = false := decide_eq_false h1
              have d3 : decide (t ≥ 64) = true := decide_eq_true (by omega)
              clear h1 ht
              go_wp2_with fail
              refine hfin.mono ?_
              rintro e w6 ⟨rfl, hS6, -⟩
              clear hfin hS5
              go_wp2_with fail
              refine hS6.known.mono ?_
              rintro e w7 ⟨rfl, hS9, -⟩
              have hbf := hS9.below
              clear hS6 hS9
              go_wp2_with fail
              go_ret
              exact ⟨rfl, hbf⟩
          · have KK := Lib.hid (show ofV l t = (l.filter (keepB t), 0) by rw [K3.out, if_neg ht])
            have d2 : decide (t < 0) = false := decide_eq_false (by omega)
            have d3 : decide (t ≥ 64) = false := decide_eq_false (by omega)
            have hro := HRO.out _ hS5
            have hfl : (l.filter (keepB t)).length ≤ 60 := Nat.le_trans (List.length_filter_le _ _) hl60
            clear ht
            go_wp2_with fail
            refine hro.mono ?_
            rintro e w6 ⟨hb6, v, rfl, hown⟩
            obtain ⟨A, c, rfl, q1, q2, q3⟩ := own_rd hown
            have hS6 := hS5.next hb6
            have hof := hS6.of KK.out q3 rfl hfl q1
            clear hro hS5 hb6 hown q3 q1 q2
            go_wp2_with fail
            refine hof.mono ?_
            rintro e w7 ⟨rfl, hS7, -⟩
            clear hof hS6
            go_wp2_with fail
            refine hS7.known.mono ?_
            rintro e w8 ⟨rfl, hS9, -⟩
            have hbf := hS9.below
            clear hS7 hS9
            go_wp2_with fail
            go_ret
            exact ⟨rfl, hbf⟩
end TraceLooks
end Go.Proofs.Ytpndlggahdefcaa
