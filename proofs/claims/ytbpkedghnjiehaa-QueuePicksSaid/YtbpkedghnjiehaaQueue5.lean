/-
  Contracts of slices' stable sort at the order of ages, for at most nineteen: one insertion sort.
-/
import Derived.Test.YtbpkedghnjiehaaQueue4
import Derived.IntWalk
namespace Go.Proofs.Ytbpkedghnjiehaa
open Go.RowKit

theorem agA_nat (ag : List Int) (t : Nat) : agA ag (t : Int) = ag.getD t 0 := by simp [agA]
theorem quiet_any {P : Program} {f : FuncId} {args : Array Value} {w : World} {n : Nat} {v : Value}
    (h : Calls P f args (w.drewN n) fun e w' => e = .returned v ∧ ∃ q, w' = (w.drewN n).drewN q) : Calls P f args (w.drewN n) fun e w'' => e = .returned v ∧ ∃ m, w'' = w.drewN m :=
  h.mono fun _ _ ⟨he, q, hq⟩ => ⟨he, n + q, by rw [hq, World.drewN_drewN]⟩
def SortP (w : World) (g2 : Nat) (ag : List Int) (n : Nat) (e : Ending) (w' : World) : Prop :=
  ∃ d, e = .returned (.tuple #[]) ∧ Ord ag n d ∧ Blk w' g2 3 (ints d) ∧ Ch (fun j => j = g2) w w'
set_option maxRecDepth 100000 in
set_option maxHeartbeats 2000000 in
theorem ins_ok (r b g c g2 : Nat) (size : Int) (picks : Nat) (ag : List Int) (n : Nat) (w : World) (h : PkAt w b g c size picks ag) (hn : ag.length = n) (hb : w.cell? ⟨r, 0, none⟩ = some (.pointer (some ⟨b, 0, none⟩))) (hB : Blk w g2 3 (ints (rng n)))
    (h1 : b ≠ g2) (h2 : g ≠ g2) (h3 : r ≠ g2) :
    Calls Try.prog 53 #[.slice (some ⟨g2, 0, none⟩) n n, .int .i64 0, .int .i64 n, ulit r] w (SortP w g2 ag n) := by
  have hlo := h.lo
  have hhi := h.hi
  have HN := Lib.hid hn
  have hn1 : 1 ≤ n := by omega
  have hn64 : n ≤ 64 := by omega
  have hst : rng n = [0] ++ restL 1 n := by
    have := restL_cons 0 n (by omega)
    rw [show restL 0 n = rng n from rfl] at this
    rw [this]; rfl
  rw [hst] at hB
  clear hst hn hlo hhi
  go_enter Try.func53, Try.ntmps53
  go_wp2
  go_loopw [8] (fun v8 wr => ∃ (i : Nat) (P : List Int), v8 = .int .i64 i ∧ 1 ≤ i ∧ i ≤ n ∧ Ord ag i P ∧ Blk wr g2 3 (ints (P ++ restL i n)) ∧ Ch (fun j => j = g2) w wr) (fun v _ => n - (intOf v).toNat)
  case atStart => exact ⟨1, [0], rfl, Nat.le_refl _, hn1, ord_one ag, hB, Ch.refl _ _⟩
  case round =>
    clear hB
    obtain ⟨i, P, rfl, hi1, hin, hO, hB, hC⟩ := hrel
    by_cases hlt : i < n
    · obtain ⟨wo, rfl⟩ : ∃ wo : World, wo = wr := ⟨_, rfl⟩
      have hPl := hO.length
      have HPL := Lib.hid hPl
      rw [restL_cons i n hlt, show P ++ (i : Int) :: restL (i + 1) n = insL P i i ++ restL (i + 1) n from by rw [← hPl, insL_end]; simp] at hB
      have HO := Lib.hid hO
      clear hPl hO
      go_wp2_with fail
      go_loopw [9] (fun v9 wr => ∃ j : Nat, v9 = .int .i64 j ∧ j ≤ i ∧ (∀ q, j ≤ q → q < i → agA ag (P.getD q 0) < agA ag i) ∧ Blk wr g2 3 (ints (insL P j i ++ restL (i + 1) n)) ∧ Ch (fun j => j = g2) w wr) (fun v _ => (intOf v).toNat)
      case atStart => exact ⟨i, rfl, Nat.le_refl _, fun q _ _ => by omega, hB, hC⟩
      case round =>
        clear hB hC
        obtain ⟨j, rfl, hji, hbig, hB, hC⟩ := hrel
        have HBIG := Lib.hid hbig
        clear hbig
        by_cases hj : j = 0
        · subst hj
          have hnew : Ord ag (i + 1) (insL P 0 i) := ord_ins HO.out (Nat.zero_le _) HBIG.out (fun h => by omega)
          have HNEW := Lib.hid hnew
          clear hnew
          go_wp2_with (go_quiet (fail))
          go_roundw
          case rel => exact ⟨i + 1, insL P 0 i, by go_num, by omega, by omega, HNEW.out, hB.keep ((Ch.refl (fun _ => False) _).drewN _) (fun e => e), hC.drewN _⟩
          case measure => simp [intOf]; omega
        · obtain ⟨q, rfl⟩ : ∃ q, j = q + 1 := ⟨j - 1, by omega⟩
          obtain ⟨s, hs⟩ : ∃ s : Nat, P.getD q 0 = s := ⟨(P.getD q 0).toNat, by have := HO.out.get q (by omega); omega⟩
          have hsi : s < i := by have := HO.out.get q (by omega); omega
          have cq := hB.cell q
          have cj := hB.cell (q + 1)
          rw [ints_get (insL_before P q i (by rw [HPL.out]; omega) _), hs] at cq
          rw [ints_get (insL_at P (q + 1) i (by rw [HPL.out]; omega) _)] at cj
          have fq := hB.frozen q
          have fj := hB.frozen (q + 1)
          have hPk : PkAt wr b g c size picks ag := h.keep hC h1 h2
          have hbr : wr.cell? ⟨r, 0, none⟩ = some (.pointer (some ⟨b, 0, none⟩)) := hC.keeps hb h3
          have i1 : (0 : Int) ≤ q := Int.natCast_nonneg _
          have i2 : (q : Int) + 1 < n := by omega
          have g1 : decide ((0 : Int) < (q : Int) + 1) = true := decide_eq_true (by omega)
          have sw : IntKind.i64.wrap ((q : Int) + 1 - 1) = q := by rw [show (q : Int) + 1 - 1 = q by omega]; exact IntWalk.i64_in _ (by omega)
          have HS := Lib.hid hs
          clear hs
          by_cases hc : ag.getD s 0 < ag.getD i 0
          · have hcall := fun W hW hX => ulit_any r b g c size picks ag i s (-1) W hW hX (by rw [HN.out]; exact hlt) (by rw [HN.out]; omega) (fun W => cmp_lt _ _ W hc)
            have hbig2 : ∀ k, q ≤ k → k < i → agA ag (P.getD k 0) < agA ag i := fun k k1 k2 => by
              by_cases e : k = q
              · subst e; rw [HS.out, agA_nat, agA_nat]; exact hc
              · exact HBIG.out k (by omega) k2
            have HBIG2 := Lib.hid hbig2
            have sw1 := insL_swap P q i (by rw [HPL.out]; omega) (restL (i + 1) n)
            have sw2 := insL_swap2 P q i (by rw [HPL.out]; omega) (restL (i + 1) n)
            rw [HS.out] at sw1 sw2
            have SW1 := Lib.hid sw1
            have SW2 := Lib.hid sw2
            clear hbig2 hc sw1 sw2
            go_wp2_with (go_quiet ((go_at_call 49; exact quiet_any (hcall _ (hPk.drewN _) (by go_cell)))))
            go_region
            all_goals
              have hW : Blk (wr.drewN (nq + 1)) g2 3 (ints (insL P (q + 1) i ++ restL (i + 1) n)) := hB.keep ((Ch.refl (fun _ => False) _).drewN _) (fun e => e)
              have hSa := (hW.set (q + 1) (.int .i64 s)).set q (.int .i64 i)
              have hSb := (hW.set q (.int .i64 i)).set (q + 1) (.int .i64 s)
              rw [ints_set, ints_set, SW1.out] at hSa
              rw [ints_set, ints_set, SW2.out] at hSb
              have hCa := ((hC.drewN (nq + 1)).setCell (p := ⟨g2, q + 1, none⟩) (.inl rfl) (.int .i64 s)).setCell (p := ⟨g2, q, none⟩) (.inl rfl) (.int .i64 i)
              have hCb := ((hC.drewN (nq + 1)).setCell (p := ⟨g2, q, none⟩) (.inl rfl) (.int .i64 i)).setCell (p := ⟨g2, q + 1, none⟩) (.inl rfl) (.int .i64 s)
              have HA := Lib.hid hSa
              have HB := Lib.hid hSb
              clear hSa hSb hW
              go_wp2_with fail
              go_roundw
              case rel => exact ⟨q, by first | rfl | exact val_int (by omega), by omega, HBIG2.out, by first | exact HA.out | exact HB.out, by first | exact hCa | exact hCb⟩
              case measure => simp [intOf]
          · have hcall := fun W hW hX => ulit_any r b g c size picks ag i s _ W hW hX (by rw [HN.out]; exact hlt) (by rw [HN.out]; omega) (fun W => cmp_ge _ _ W (by omega))
            obtain ⟨v, hv, hcall⟩ : ∃ v : Int, decide (v < 0) = false ∧ ∀ W, PkAt W b g c size picks ag → W.cell? ⟨r, 0, none⟩ = some (.pointer (some ⟨b, 0, none⟩)) → Calls Try.prog 49 #[.int .i64 i, .int .i64 s, .pointer (some ⟨r, 0, none⟩)] W fun e w' => e = .returned (.int .i64 v) ∧ ∃ q, w' = W.drewN q :=
              ⟨_, by split <;> decide, hcall⟩
            have hnew : Ord ag (i + 1) (insL P (q + 1) i) := ord_ins HO.out hji HBIG.out (fun _ => by rw [show q + 1 - 1 = q by omega, HS.out, agA_nat, agA_nat]; omega)
            have HNEW := Lib.hid hnew
            clear hnew hc
            go_wp2_with (go_quiet ((go_at_call 49; exact quiet_any (hcall _ (hPk.drewN _) (by go_cell)))))
            go_roundw
            case rel => exact ⟨i + 1, insL P (q + 1) i, by go_num, by omega, by omega, HNEW.out, hB.keep ((Ch.refl (fun _ => False) _).drewN _) (fun e => e), hC.drewN _⟩
            case measure => simp [intOf]; omega
    · obtain rfl : i = n := by omega
      rw [restL_end, List.append_nil] at hB
      go_wp2
      go_end0
      exact ⟨P, rfl, hO, hB, hC⟩
theorem stable_ok (r b g c g2 : Nat) (size : Int) (picks : Nat) (ag : List Int) (n : Nat) (w : World) (h : PkAt w b g c size picks ag) (hn : ag.length = n) (hm : n ≤ 19) (hb : w.cell? ⟨r, 0, none⟩ = some (.pointer (some ⟨b, 0, none⟩))) (hB : Blk w g2 3 (ints (rng n)))
    (h1 : b ≠ g2) (h2 : g ≠ g2) (h3 : r ≠ g2) :
    Calls Try.prog 48 #[.slice (some ⟨g2, 0, none⟩) n n, ulit r] w (SortP w g2 ag n) := by
  have hi := ins_ok r b g c g2 size picks ag n w h hn hb hB h1 h2 h3
  have d1 : decide ((20 : Int) ≤ n) = false := decide_eq_false (by omega)
  have d2 : decide ((20 : Int) < n) = false := decide_eq_false (by omega)
  have hst : Calls Try.prog 51 #[.slice (some ⟨g2, 0, none⟩) n n, .int .i64 n, ulit r] w (SortP w g2 ag n) := by
    clear hB hn
    go_enter Try.func51, Try.ntmps51
    go_wp2_with fail
    refine wp_loop_rounds 1 ?_
    change Code.wp _ _ _ _ _
    go_wp2_with fail
    refine hi.mono ?_
    rintro e w2 ⟨d, rfl, k1, k2, k3⟩
    go_wp2_with fail
    refine wp_loop_rounds 1 ?_
    change Code.wp _ _ _ _ _
    go_wp2_with fail
    go_end0
    exact ⟨d, rfl, k1, k2, k3⟩
  clear hB hn hi
  go_enter Try.func48, Try.ntmps48
  go_wp2_with fail
  refine hst.mono ?_
  rintro e w2 ⟨d, rfl, k1, k2, k3⟩
  go_wp2
  go_end0
  exact ⟨d, rfl, k1, k2, k3⟩
end Go.Proofs.Ytbpkedghnjiehaa
