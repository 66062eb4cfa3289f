/-
  The walk of TraceWaits: it returns true for every list of bytes.
-/
import Derived.Test.YtpndlggahdefcaaWTraceLooks
import Derived.Deep.CutBlock
namespace Go.Proofs.Ytpndlggahdefcaa
open Go.RowKit
set_option linter.unusedSimpArgs false
set_option linter.unusedVariables false
namespace TraceWaits

/-- things that may stand in a trace, none of which is an end -/
def Fine (l : List Dd) : Prop := ∀ d ∈ l, rightB d = true ∧ d.en = false ∧ d.wf
theorem fine_good {l : List Dd} (h : Fine l) : ∀ k, k ≤ l.length → goodB l k = true
  | 0, _ => rfl
  | k + 1, hk => by
    obtain ⟨d, hd⟩ : ∃ d, l[k]? = some d := ⟨_, List.getElem?_eq_getElem (by omega)⟩
    rw [goodB_succ l k hd, fine_good h k (by omega), (h d (List.mem_iff_getElem?.2 ⟨k, hd⟩)).1]
    have : enB (l.take k) d.t = false := by
      unfold enB
      rw [List.any_eq_false]
      intro x hx
      have := (h x (List.mem_of_mem_take hx)).2.1
      simp [this]
    rw [this]
    rfl
theorem fine_valid {l : List Dd} (h : Fine l) (hl : l.length ≤ 60) : validB l = true := by
  unfold validB
  rw [fine_good h _ (Nat.le_refl _), decide_eq_true (by omega)]
  rfl
theorem wf_u8 {x : Int} (h : (Lit.int .u8 x).wf = true) : 0 ≤ x ∧ x ≤ 255 := by
  simp [Lit.wf, IntKind.min, IntKind.max, IntKind.signed, IntKind.bits] at h
  omega
theorem fine_right {T k w b a : Int} {wt : Bool} (h0 : 0 ≤ T) (h1 : T ≤ 2) (h : (0 ≤ k ∧ k ≤ 4 ∧ (wt = false ∨ k ≤ 1) ∧ (k ≠ 0 ∨ (w = 0 ∧ b = 0 ∧ a = 0)) ∧ (k = 0 ∨ (0 ≤ w ∧ w ≤ 1)) ∧ (k ≠ 1 ∨ b = a))) : rightB ⟨T, k, w, b, a, wt, false⟩ = true := by
  rw [rightB_iff]
  simp only
  obtain ⟨a1, a2, a3, a4, a5, a6⟩ := h
  refine ⟨by omega, by omega, a1, a2, ?_, a4, ?_, a6⟩
  · rcases a3 with h | h
    · exact .inl h
    · exact .inr ⟨h, by first | rfl | trivial⟩
  · rcases a5 with h | h
    · exact .inl h
    · exact .inr (by omega)
theorem fine_wf {T k w b a : Int} {wt : Bool} (h0 : 0 ≤ T) (h1 : T ≤ 2) (h2 : i64B k) (h3 : i64B w) (h4 : u64B b) (h5 : u64B a) : (Dd.mk T k w b a wt false).wf := ⟨by show i64B T; unfold i64B; omega, h2, h3, h4, h5⟩
def Bd (w : World) (l : List Dd) (v : Value) (wr : World) : Prop := wr.ownsRow w.heap.size 47 7 v l.length (dds l) ∧ Below w.heap.size w wr
set_option maxRecDepth 100000 in
set_option maxHeartbeats 4000000 in
theorem walk (A : Option Addr) (n c : Nat) (xs : List Int) (lx : xs.length = n) (m1 : n ≤ c) (b1 : c ≤ 9223372036854775807) (z1 : A = none → c = 0) (w : World)
    (r1 : Rd (fun b => b < w.heap.size) w A (xs.map (Value.int .u8))) (y1 : ∀ x ∈ xs, (Lit.int .u8 x).wf = true) :
    Calls Try.prog 6 #[.slice A n c] w fun e w' => e = .returned (.bool true) ∧ Below w.heap.size w w' := by
  subst lx
  by_cases hs : xs.length > 60
  · have hk := known_ok w
    have d1 : decide ((xs.length : Int) > 60) = true := decide_eq_true (by omega)
    clear r1 hs
    go_enter Try.func6, Try.ntmps6
    go_wp2_with fail
    refine hk.mono ?_
    rintro e w1 ⟨rfl, hb⟩
    go_wp2_with fail
    go_ret
    exact ⟨rfl, hb⟩
  · have d1 : decide ((xs.length : Int) > 60) = false := decide_eq_false (by omega)
    have hl60 : xs.length ≤ 60 := by omega
    obtain ⟨i0, hi0, hz0, hz1, hz2⟩ := info_parts ddInfo
    have HY := Lib.hid y1
    clear hs y1
    go_enter Try.func6, Try.ntmps6
    go_wp2_with fail
    go_loopw [3, 14] (fun v3 v14 wr => ∃ (k : Nat) (l : List Dd), k ≤ xs.length ∧ v14 = .int .i64 k ∧ l.length = k ∧ Fine l ∧ Bd w l v3 wr) (fun _ v _ => xs.length - (intOf v).toNat)
    case atStart => exact ⟨0, [], Nat.zero_le _, rfl, rfl, fun d hd => (by cases hd), own_none _ _ _ _, Below.refl _ _⟩
    case round =>
      obtain ⟨k, l, hk, rfl, hlk, hF, hB⟩ := hrel
      have HF := Lib.hid hF
      clear hF
      by_cases hlt : k < xs.length
      · obtain ⟨b, o, rfl, _, hcx⟩ := (r1.keep (Ch.of_below hB.2 (fun _ => False)) (fun _ _ _ e => e)).at (j := k) (by simpa using hlt)
        obtain ⟨x, hx⟩ : ∃ x, xs[k]? = some x := ⟨_, List.getElem?_eq_getElem hlt⟩
        have hxw := wf_u8 (HY.out x (List.mem_of_getElem? hx))
        have hcx2 : wr.cell? ⟨b, o + k, none⟩ = some (.int .u8 x) := by
          rw [hcx]
          have h2 := List.getElem_eq_iff (h := hlt) |>.2 hx
          simp [h2]
        have i1 : (0 : Int) ≤ k := Int.natCast_nonneg _
        have i2 : (k : Int) < (xs.length : Int) := by omega
        have HR := Lib.hid r1
        clear hcx hx r1
        obtain ⟨hx0, hx1⟩ := hxw
        have hT1 : 0 ≤ x % 3 ∧ x % 3 ≤ 2 := by omega
        have hK1 : x / 3 % 8 = 0 ∨ x / 3 % 8 = 1 ∨ x / 3 % 8 = 2 ∨ x / 3 % 8 = 3 ∨ x / 3 % 8 = 4 ∨ x / 3 % 8 = 5 ∨ x / 3 % 8 = 6 ∨ x / 3 % 8 = 7 := by omega
        have HT := Lib.hid hT1
        have HK := Lib.hid hK1
        clear hT1 hK1
        go_upto_block 2 with fail
        generalize x % 3 = T at *
        generalize x / 3 % 8 = K at *
        have hDA := Blk.new wr 47 (Dd.mk T 0 0 0 0 false false).cells
        have hBA : Bd w l u3 (wr.alloc (.cells (Dd.mk T 0 0 0 0 false false).cells.toArray 47)) := ⟨own_keep hB.1 ((Ch.refl (fun _ => False) _).alloc _) (fun _ _ _ e => e), hB.2.alloc hB.2.size _⟩
        have HOB := Lib.hid (fun j (hj : u3.ownBlock = some j) => (hB.1.lt j hj).2)
        have HSZ := Lib.hid hB.2.size
        change Blk (wr.alloc (.cells #[.int .i64 T, .int .i64 0, .int .i64 0, .int .u64 0, .int .u64 0, .bool false, .bool false] 47)) _ _ _ at hDA
        change Bd w l u3 (wr.alloc (.cells #[.int .i64 T, .int .i64 0, .int .i64 0, .int .u64 0, .int .u64 0, .bool false, .bool false] 47)) at hBA
        generalize wr.alloc (.cells #[.int .i64 T, .int .i64 0, .int .i64 0, .int .u64 0, .int .u64 0, .bool false, .bool false] 47) = wa at *
        generalize wr.heap.size = DB at *
        clear hB hcx2
        have HFR := Lib.hid (fun (w' : World) (hc : Ch (fun j => j = DB) wa w') => (show Bd w l u3 w' from ⟨own_keep hBA.1 hc (fun j hj _ e => by subst e; exact absurd (HOB.out _ hj) (Nat.lt_irrefl _)), hBA.2.trans (hc.below (fun j _ e => by subst e; exact HSZ.out) hBA.2.size)⟩))
        go_cut [] (fun wx => ∃ d : Dd, rightB d = true ∧ d.en = false ∧ d.wf ∧ Blk wx DB 47 d.cells ∧ Bd w l u3 wx)
        case first =>
          have d0 := hDA.cell 0
          have d1' := hDA.cell 1
          have d2' := hDA.cell 2
          have d3' := hDA.cell 3
          have d4' := hDA.cell 4
          have d5' := hDA.cell 5
          have d6' := hDA.cell 6
          have f1 := hDA.frozen 1
          have f2 := hDA.frozen 2
          have f3 := hDA.frozen 3
          have f4 := hDA.frozen 4
          have f5 := hDA.frozen 5
          simp only [Dd.cells, List.getElem?_cons_succ, List.getElem?_cons_zero] at d0 d1' d2' d3' d4' d5' d6'
          have hDAX := Lib.hid hDA
          have q0 : bits BinOp.and .i64 0 1 = 0 := by decide +kernel
          have q1 : bits BinOp.and .i64 1 1 = 1 := by decide +kernel
          have q2 : bits BinOp.and .i64 2 1 = 0 := by decide +kernel
          have q3 : bits BinOp.and .i64 3 1 = 1 := by decide +kernel
          have q4 : bits BinOp.and .i64 4 1 = 0 := by decide +kernel
          have HT2 := HT.out
          clear hDA hBA
          rcases HK.out with rfl | rfl | rfl | rfl | rfl | rfl | rfl | rfl
          · go_wp2_with fail
            go_meet
            exact ⟨⟨T, 1, 0, 0, 0, true, false⟩, fine_right (by have := HT.out; omega) (by have := HT.out; omega) (by decide), rfl, fine_wf (by have := HT.out; omega) (by have := HT.out; omega) (by unfold i64B; omega) (by unfold i64B; omega) (by unfold u64B; omega) (by unfold u64B; omega), (((((hDAX.out.set 5 (.bool true)).set 1 (.int .i64 1)).set 2 (.int .i64 0)).set 3 (.int .u64 0)).set 4 (.int .u64 0)), HFR.out _ ((((((Ch.refl (fun j => j = DB) wa).setCell (p := ⟨DB, 5, none⟩) (.inl rfl) (.bool true)).setCell (p := ⟨DB, 1, none⟩) (.inl rfl) (.int .i64 1)).setCell (p := ⟨DB, 2, none⟩) (.inl rfl) (.int .i64 0)).setCell (p := ⟨DB, 3, none⟩) (.inl rfl) (.int .u64 0)).setCell (p := ⟨DB, 4, none⟩) (.inl rfl) (.int .u64 0))⟩
          · go_wp2_with fail
            go_meet
            exact ⟨⟨T, 1, 1, 0, 0, true, false⟩, fine_right (by have := HT.out; omega) (by have := HT.out; omega) (by decide), rfl, fine_wf (by have := HT.out; omega) (by have := HT.out; omega) (by unfold i64B; omega) (by unfold i64B; omega) (by unfold u64B; omega) (by unfold u64B; omega), (((((hDAX.out.set 5 (.bool true)).set 1 (.int .i64 1)).set 2 (.int .i64 1)).set 3 (.int .u64 0)).set 4 (.int .u64 0)), HFR.out _ ((((((Ch.refl (fun j => j = DB) wa).setCell (p := ⟨DB, 5, none⟩) (.inl rfl) (.bool true)).setCell (p := ⟨DB, 1, none⟩) (.inl rfl) (.int .i64 1)).setCell (p := ⟨DB, 2, none⟩) (.inl rfl) (.int .i64 1)).setCell (p := ⟨DB, 3, none⟩) (.inl rfl) (.int .u64 0)).setCell (p := ⟨DB, 4, none⟩) (.inl rfl) (.int .u64 0))⟩
          · go_wp2_with fail
            go_meet
            exact ⟨⟨T, 1, 0, 0, 0, true, false⟩, fine_right (by have := HT.out; omega) (by have := HT.out; omega) (by decide), rfl, fine_wf (by have := HT.out; omega) (by have := HT.out; omega) (by unfold i64B; omega) (by unfold i64B; omega) (by unfold u64B; omega) (by unfold u64B; omega), (((((hDAX.out.set 5 (.bool true)).set 1 (.int .i64 1)).set 2 (.int .i64 0)).set 3 (.int .u64 0)).set 4 (.int .u64 0)), HFR.out _ ((((((Ch.refl (fun j => j = DB) wa).setCell (p := ⟨DB, 5, none⟩) (.inl rfl) (.bool true)).setCell (p := ⟨DB, 1, none⟩) (.inl rfl) (.int .i64 1)).setCell (p := ⟨DB, 2, none⟩) (.inl rfl) (.int .i64 0)).setCell (p := ⟨DB, 3, none⟩) (.inl rfl) (.int .u64 0)).setCell (p := ⟨DB, 4, none⟩) (.inl rfl) (.int .u64 0))⟩
          · go_wp2_with fail
            go_meet
            exact ⟨⟨T, 4, 1, 0, (k : Int) + 1, false, false⟩, fine_right (by have := HT.out; omega) (by have := HT.out; omega) ⟨by omega, by omega, .inl rfl, .inl (by omega), .inr ⟨by omega, by omega⟩, .inl (by omega)⟩, rfl, fine_wf (by have := HT.out; omega) (by have := HT.out; omega) (by unfold i64B; omega) (by unfold i64B; omega) (by unfold u64B; omega) (by unfold u64B; omega), ((((hDAX.out.set 1 (.int .i64 4)).set 2 (.int .i64 1)).set 3 (.int .u64 0)).set 4 (.int .u64 ((k : Int) + 1))), HFR.out _ (((((Ch.refl (fun j => j = DB) wa).setCell (p := ⟨DB, 1, none⟩) (.inl rfl) (.int .i64 4)).setCell (p := ⟨DB, 2, none⟩) (.inl rfl) (.int .i64 1)).setCell (p := ⟨DB, 3, none⟩) (.inl rfl) (.int .u64 0)).setCell (p := ⟨DB, 4, none⟩) (.inl rfl) (.int .u64 ((k : Int) + 1)))⟩
          · go_wp2_with fail
            go_meet
            exact ⟨⟨T, 4, 0, 0, (k : Int) + 1, false, false⟩, fine_right (by have := HT.out; omega) (by have := HT.out; omega) ⟨by omega, by omega, .inl rfl, .inl (by omega), .inr ⟨by omega, by omega⟩, .inl (by omega)⟩, rfl, fine_wf (by have := HT.out; omega) (by have := HT.out; omega) (by unfold i64B; omega) (by unfold i64B; omega) (by unfold u64B; omega) (by unfold u64B; omega), ((((hDAX.out.set 1 (.int .i64 4)).set 2 (.int .i64 0)).set 3 (.int .u64 0)).set 4 (.int .u64 ((k : Int) + 1))), HFR.out _ (((((Ch.refl (fun j => j = DB) wa).setCell (p := ⟨DB, 1, none⟩) (.inl rfl) (.int .i64 4)).setCell (p := ⟨DB, 2, none⟩) (.inl rfl) (.int .i64 0)).setCell (p := ⟨DB, 3, none⟩) (.inl rfl) (.int .u64 0)).setCell (p := ⟨DB, 4, none⟩) (.inl rfl) (.int .u64 ((k : Int) + 1)))⟩
          · go_wp2_with fail
            go_meet
            exact ⟨⟨T, 2, 1, 3, 3, false, false⟩, fine_right (by have := HT.out; omega) (by have := HT.out; omega) (by decide), rfl, fine_wf (by have := HT.out; omega) (by have := HT.out; omega) (by unfold i64B; omega) (by unfold i64B; omega) (by unfold u64B; omega) (by unfold u64B; omega), ((((hDAX.out.set 1 (.int .i64 2)).set 2 (.int .i64 1)).set 3 (.int .u64 3)).set 4 (.int .u64 3)), HFR.out _ (((((Ch.refl (fun j => j = DB) wa).setCell (p := ⟨DB, 1, none⟩) (.inl rfl) (.int .i64 2)).setCell (p := ⟨DB, 2, none⟩) (.inl rfl) (.int .i64 1)).setCell (p := ⟨DB, 3, none⟩) (.inl rfl) (.int .u64 3)).setCell (p := ⟨DB, 4, none⟩) (.inl rfl) (.int .u64 3))⟩
          · go_wp2_with fail
            go_meet
            exact ⟨⟨T, 1, 1, 0, 0, false, false⟩, fine_right (by have := HT.out; omega) (by have := HT.out; omega) (by decide), rfl, fine_wf (by have := HT.out; omega) (by have := HT.out; omega) (by unfold i64B; omega) (by unfold i64B; omega) (by unfold u64B; omega) (by unfold u64B; omega), ((((hDAX.out.set 1 (.int .i64 1)).set 2 (.int .i64 1)).set 3 (.int .u64 0)).set 4 (.int .u64 0)), HFR.out _ (((((Ch.refl (fun j => j = DB) wa).setCell (p := ⟨DB, 1, none⟩) (.inl rfl) (.int .i64 1)).setCell (p := ⟨DB, 2, none⟩) (.inl rfl) (.int .i64 1)).setCell (p := ⟨DB, 3, none⟩) (.inl rfl) (.int .u64 0)).setCell (p := ⟨DB, 4, none⟩) (.inl rfl) (.int .u64 0))⟩
          · go_wp2_with fail
            go_meet
            exact ⟨⟨T, 0, 0, 0, 0, bits BinOp.and .u8 x 1 == 1, false⟩, fine_right (by have := HT.out; omega) (by have := HT.out; omega) ⟨by omega, by omega, .inr (by omega), .inr ⟨rfl, rfl, rfl⟩, .inl rfl, .inl (by omega)⟩, rfl, fine_wf (by have := HT.out; omega) (by have := HT.out; omega) (by unfold i64B; omega) (by unfold i64B; omega) (by unfold u64B; omega) (by unfold u64B; omega), (hDAX.out.set 5 (.bool (bits BinOp.and .u8 x 1 == 1))), HFR.out _ ((Ch.refl (fun j => j = DB) wa).setCell (p := ⟨DB, 5, none⟩) (.inl rfl) (.bool (bits BinOp.and .u8 x 1 == 1)))⟩
        case rest =>
          obtain ⟨d, hd1, hd2, hd3, hD, hB⟩ := hcut
          have hnew : Fine (l ++ [d]) := fun z hz => by
            rcases List.mem_append.1 hz with h | h
            · exact HF.out z h
            · obtain rfl := List.mem_singleton.1 h
              exact ⟨hd1, hd2, hd3⟩
          have HNEW := Lib.hid hnew
          have HL := Lib.hid (show (dds (l ++ [d])) = dds l ++ d.cells by rw [dds_append, dds_one])
          obtain ⟨t, kd, y, bb, aa, wt, en⟩ := d
          have d0 := hD.cell 0
          have d1' := hD.cell 1
          have d2' := hD.cell 2
          have d3' := hD.cell 3
          have d4' := hD.cell 4
          have d5' := hD.cell 5
          have d6' := hD.cell 6
          simp only [Dd.cells, List.getElem?_cons_succ, List.getElem?_cons_zero] at d0 d1' d2' d3' d4' d5' d6'
          obtain ⟨hrow, hbel⟩ := hB
          have hbr := Below.refl wc.heap.size wc
          have hbs := hbel.size
          clear hnew hd1 hd2 hd3 hD hDA hBA
          go_wp2_with ((at_builtin; refine wpList_append_rd _ rfl _ _ _ rfl w.heap.size 47 i0 _ 7 48 Try.underlying42 hi0 hz0 hz1 hz2 rfl (by omega) _ _ _ rfl (own_keep (own_keep hrow (Ch.of_below hbr (fun _ => False)) (fun _ _ _ e => e)) ((Ch.refl (fun _ => False) _).alloc _) (fun _ _ _ e => e)) (some ⟨_, 0, none⟩) 1 1 [.int .i64 t, .int .i64 kd, .int .i64 y, .int .u64 bb, .int .u64 aa, .bool wt, .bool en] rfl (Rd.of_blk (G := fun _ => True) (Blk.new _ _ [.int .i64 t, .int .i64 kd, .int .i64 y, .int .u64 bb, .int .u64 aa, .bool wt, .bool en]) (List.prefix_refl _) trivial) (fun h => by cases h) rfl (by simp [Value.oneCell']) (by unfold maxLen; omega) (by omega) (by have := Below.size hbr; simp; omega) ?_))
          intro v3 w3 hown3 hch3 hat3
          have hb3 : Below w.heap.size w w3 := (hbel.alloc hbel.size _).trans (hch3.below (fun j hj e => ownBlock_ge hrow e) (by simp; omega))
          have hown4 : Bd w (l ++ [⟨t, kd, y, bb, aa, wt, en⟩]) v3 w3 := ⟨by rw [HL.out, List.length_append, hlk]; simpa [Dd.cells] using hown3, hb3⟩
          clear hown3 hch3 hat3 hrow hbr hb3
          go_wp2_with fail
          go_roundw
          case rel => exact ⟨k + 1, _, by omega, by go_num, by rw [List.length_append, hlk]; rfl, HNEW.out, hown4⟩
          case measure => simp [intOf]; omega
      · obtain rfl : k = xs.length := by omega
        obtain ⟨hown, hbel⟩ := hB
        have hlen : l.length ≤ 60 := by omega
        rw [hlk] at hown
        obtain ⟨A2, c2, rfl, q1, q2, q3⟩ := own_rd hown
        have HLK := Lib.hid hlk
        have hvb := fine_valid HF.out hlen
        have hv := valid_ok A2 l xs.length c2 wr q3 HLK.out (by omega)
        rw [hvb] at hv
        have hw0 := (TraceLooks.wrong_valid hlen).1 hvb
        have HR := Lib.hid (wf_right hw0)
        have K1 := Lib.hid (show wtV l = (refW l l.length, 0) by unfold wtV; rw [if_neg (by omega)])
        have HRW := Lib.hid (fun W (h : Rd (fun _ => True) W A2 (dds l)) => rwaits_ok A2 l xs.length c2 W (h.mono (fun b hb _ => hb)) HLK.out (by omega) HR.out)
        have hle := refW_len l l.length
        obtain ⟨RL, hRL⟩ : ∃ RL, refW l l.length = RL := ⟨_, rfl⟩
        rw [hRL] at K1 hle
        have HRL := Lib.hid hRL
        clear hown hvb hw0 r1 hlk hRL
        go_wp2_with fail
        refine hv.mono ?_
        rintro e w1 ⟨rfl, hb1⟩
        have hR1 := q3.keep (Ch.of_below hb1 (fun _ => False)) (fun _ _ _ e => e)
        have hB1 := hbel.trans (hb1.mono hbel.size)
        have hc2 := HRW.out _ hR1
        rw [HRL.out] at hc2
        clear hv q3 hb1 hbel
        go_wp2_with fail
        refine hc2.mono ?_
        rintro e w2 ⟨hb2, v, rfl, hown⟩
        obtain ⟨A3, c3, rfl, p1, p2, p3⟩ := own_rd hown
        have hR2 := hR1.keep (Ch.of_below hb2 (fun _ => False)) (fun _ _ _ e => e)
        have hB2 := hB1.trans (hb2.mono hB1.size)
        have hwt := lwaits_ok A2 A3 RL l xs.length c2 RL.length c3 0 w2 (hR2.mono (fun b hb _ => hb)) HLK.out (by omega) p3 rfl (by omega) p1
        rw [K1.out, decide_eq_true rfl] at hwt
        clear hc2 hR1 hb2 hown p1 p2 p3 hB1 hR2
        go_wp2_with fail
        refine hwt.mono ?_
        rintro e w3 ⟨rfl, hb3⟩
        have hB3 := hB2.trans (hb3.mono hB2.size)
        clear hwt hb3 hB2
        go_wp2_with fail
        refine (known_ok _).mono ?_
        rintro e w4 ⟨rfl, hb4⟩
        have hB4 := hB3.trans (hb4.mono hB3.size)
        clear hb4 hB3
        go_wp2_with fail
        go_ret
        exact ⟨rfl, hB4⟩
end TraceWaits
end Go.Proofs.Ytpndlggahdefcaa
