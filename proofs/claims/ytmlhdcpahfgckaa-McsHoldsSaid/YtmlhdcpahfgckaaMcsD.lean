/-
  Contract of the law's works: some program's next step, on a copy, does not wait.
-/
import Derived.Test.YtmlhdcpahfgckaaMcsC
namespace Go.Proofs.Ytmlhdcpahfgckaa
open Go.RowKit

theorem Ch.belowCh {w w' : World} {F : Nat → Prop} (hc : Ch F w w') {B : Nat} (h : ∀ j, F j → B ≤ j) (hB : B ≤ w.heap.size) : Below B w w' := hc.below (fun j _ e => h j e) hB

theorem nil_Copy_Acquire (r : Nat) (w : World) : (nilAhead 242 59 (.pointer (some ⟨r, 0, none⟩)) "Copy").run Try.prog w = .ok (some false) w := by kernel_rfl
theorem method_Copy_Acquire (r : Nat) (w : World) : (method 242 59 (.pointer (some ⟨r, 0, none⟩)) "Copy").run Try.prog w = .ok (69, .pointer (some ⟨r, 0, none⟩)) w := by kernel_rfl

theorem nil_Copy_Release (r : Nat) (w : World) : (nilAhead 242 63 (.pointer (some ⟨r, 0, none⟩)) "Copy").run Try.prog w = .ok (some false) w := by kernel_rfl
theorem method_Copy_Release (r : Nat) (w : World) : (method 242 63 (.pointer (some ⟨r, 0, none⟩)) "Copy").run Try.prog w = .ok (82, .pointer (some ⟨r, 0, none⟩)) w := by kernel_rfl

set_option maxRecDepth 100000 in
set_option maxHeartbeats 2000000 in
theorem works_ok {W : World} {nb : Nat} {B t : Int} {b g c : Nat} {ws : List Int} {pl : List (Option (Nat × Bool × Rn))} (pb n : Nat) (w : World) (hK : KO W w nb B t b g c ws pl) (hPB : Blk w pb 33 (pl.map progV)) (hn : pl.length = n) (hm : n ≤ 1000)
    {i r0 : Nat} {bk0 : Bool} {x0 : Rn} (hi : pl[i]? = some (some (r0, bk0, x0))) (hgo : (stp bk0 B t x0 ws).wt = false ∧ (stp bk0 B t x0 ws).e = 0) :
    Calls Try.prog 19 #[.slice (some ⟨pb, 0, none⟩) n n, .pointer (some ⟨b, 0, none⟩)] w fun e w' => e = .returned (.bool true) ∧ Below w.heap.size w w' := by
  have hin : i < n := by have := (List.getElem?_eq_some_iff.1 hi).1; omega
  go_enter Try.func19, Try.ntmps19
  go_wp2_with fail
  go_loopw [5, 14] (fun v5 v14 wr => ∃ k : Nat, v14 = .int .i64 k ∧ k ≤ i ∧ (∃ y, v5 = .bool y) ∧ Below w.heap.size w wr) (fun _ v14 _ => n - (intOf v14).toNat)
  case atStart => exact ⟨0, rfl, by omega, ⟨_, rfl⟩, Below.refl _ _⟩
  case round =>
    obtain ⟨k, rfl, hk, ⟨y, rfl⟩, hB⟩ := hrel
    have hkn : k < n := by omega
    obtain ⟨p, hp⟩ : ∃ p, pl[k]? = some p := ⟨_, List.getElem?_eq_getElem (by omega)⟩
    have hPB' := Blk.keep hPB (Ch.of_below hB (fun _ => False)) (fun e => e)
    have hK' := hK.step hB
    have hck : wr.cell? ⟨pb, k, none⟩ = some (progV p) := by rw [hPB'.cell, List.getElem?_map, hp]; rfl
    have HP := Lib.hid hp
    have i1 : (0 : Int) ≤ k := Int.natCast_nonneg _
    have i2 : (k : Int) < n := by omega
    clear hPB'
    rcases p with _ | ⟨r, bk, x⟩
    · skip
      have hki : k ≠ i := fun e => by rw [e, hi] at hp; cases hp
      rw [show progV none = .nilIface from rfl] at hck
      clear hp hK'
      go_wp2_with fail
      go_roundw
      case rel => exact ⟨k + 1, by go_num, by omega, ⟨_, rfl⟩, hB⟩
      case measure => simp [intOf]; omega
    · rw [show progV (some (r, bk, x)) = progI bk r from rfl] at hck
      cases bk
      · skip
        have z1 := nil_Step_Acquire wr.heap.size
        have z2 := method_Step_Acquire wr.heap.size
        have z3 := nil_Copy_Acquire r
        have z4 := method_Copy_Acquire r
        have hsat := hK'.sat HP.out
        rw [progI_A] at hck
        go_wp2_with fail
        refine (acopy r nb x _ hsat.s.run).mono ?_
        rintro e w1 ⟨rfl, hR1, hB1⟩
        go_wp2_with fail
        refine (mcopy_ok b g c ws _ (hsat.s.mem.below hB1)).mono ?_
        rintro e w2 ⟨b2, g2, c2, rfl, hm2, hb2, hg2, hB2⟩
        have hz1 := hB1.size
        have hz2 := hB2.size
        have hR2 : RnAt w2 wr.heap.size nb 67 x := Blk.keep hR1 (Ch.of_below hB2 (fun _ => False)) (fun e => e)
        have hN2 : NdAt w2 nb B t := (hsat.s.nd.below hB1).below hB2
        have hS2 : Sat w2 false wr.heap.size nb b2 g2 c2 B t x ws := by
          obtain ⟨sp, hrow⟩ := hm2.row
          exact ⟨⟨hR2, hN2, hm2, Blk.ne hR2 hrow (by decide), Blk.ne hN2.c hrow (by decide), Blk.ne hN2.c hR2 (by decide), Blk.ne hm2.hd hR2 (by decide), hsat.s.n0, hsat.s.n1, hsat.s.o0, hsat.s.o1⟩, hsat.p⟩
        have hst := astep' wr.heap.size nb b2 g2 c2 B t x ws w2 hS2
        have hB3 : Below w.heap.size w w2 := (hB.trans (hB1.mono hB.size)).trans (hB2.mono (by have := hB.size; omega))
        clear hsat hR1 hR2 hN2 hm2 hB1 hB2
        by_cases hwt : (stp false B t x ws).wt = false ∧ (stp false B t x ws).e = 0
        · rw [hwt.1, hwt.2] at hst
          clear hwt
          go_wp2_with (go_at_call 72; refine hst.mono ?_; rintro e w3 ⟨rfl, _, hC3⟩)
          go_ret
          exact ⟨rfl, hB3.trans (hC3.belowCh (fun j e => by have := hB.size; omega) hB3.size)⟩
        · have hki : k ≠ i := fun e => by
            subst e
            rw [hi] at hp
            injection hp with hp
            injection hp with hp
            injection hp with h1 hp
            injection hp with h2 h3
            subst h1 h2 h3
            exact hwt hgo
          have hst2 : ∃ (wt : Bool) (ee : Int), (wt = false → (ee == 0) = false) ∧ Calls Try.prog 72 #[.pointer (some ⟨wr.heap.size, 0, none⟩), memI b2] w2 (SaP w2 false wr.heap.size nb b2 g2 c2 B t (stp false B t x ws).x (stp false B t x ws).ws (.tuple #[.bool wt, .int .i64 ee])) :=
            ⟨_, _, fun h => by simpa using fun h2 => hwt ⟨h, h2⟩, hst⟩
          obtain ⟨wt, ee, hwe, hst2⟩ := hst2
          have HWE := Lib.hid hwe
          clear hst hwt hwe
          cases wt
          · have hee := HWE.out rfl
            go_wp2_with (go_at_call 72; refine hst2.mono ?_; rintro e w3 ⟨rfl, _, hC3⟩)
            go_roundw
            case rel => exact ⟨k + 1, by go_num, by omega, ⟨true, rfl⟩, hB3.trans (hC3.belowCh (fun j e => by have := hB.size; omega) hB3.size)⟩
            case measure => simp [intOf]; omega
          · go_wp2_with (go_at_call 72; refine hst2.mono ?_; rintro e w3 ⟨rfl, _, hC3⟩)
            go_roundw
            case rel => exact ⟨k + 1, by go_num, by omega, ⟨true, rfl⟩, hB3.trans (hC3.belowCh (fun j e => by have := hB.size; omega) hB3.size)⟩
            case measure => simp [intOf]; omega
      · skip
        have z1 := nil_Step_Release wr.heap.size
        have z2 := method_Step_Release wr.heap.size
        have z3 := nil_Copy_Release r
        have z4 := method_Copy_Release r
        have hsat := hK'.sat HP.out
        rw [progI_R] at hck
        go_wp2_with fail
        refine (rcopy r nb x _ hsat.s.run).mono ?_
        rintro e w1 ⟨rfl, hR1, hB1⟩
        go_wp2_with fail
        refine (mcopy_ok b g c ws _ (hsat.s.mem.below hB1)).mono ?_
        rintro e w2 ⟨b2, g2, c2, rfl, hm2, hb2, hg2, hB2⟩
        have hz1 := hB1.size
        have hz2 := hB2.size
        have hR2 : RnAt w2 wr.heap.size nb 68 x := Blk.keep hR1 (Ch.of_below hB2 (fun _ => False)) (fun e => e)
        have hN2 : NdAt w2 nb B t := (hsat.s.nd.below hB1).below hB2
        have hS2 : Sat w2 true wr.heap.size nb b2 g2 c2 B t x ws := by
          obtain ⟨sp, hrow⟩ := hm2.row
          exact ⟨⟨hR2, hN2, hm2, Blk.ne hR2 hrow (by decide), Blk.ne hN2.c hrow (by decide), Blk.ne hN2.c hR2 (by decide), Blk.ne hm2.hd hR2 (by decide), hsat.s.n0, hsat.s.n1, hsat.s.o0, hsat.s.o1⟩, hsat.p⟩
        have hst := rstep' wr.heap.size nb b2 g2 c2 B t x ws w2 hS2
        have hB3 : Below w.heap.size w w2 := (hB.trans (hB1.mono hB.size)).trans (hB2.mono (by have := hB.size; omega))
        clear hsat hR1 hR2 hN2 hm2 hB1 hB2
        by_cases hwt : (stp true B t x ws).wt = false ∧ (stp true B t x ws).e = 0
        · rw [hwt.1, hwt.2] at hst
          clear hwt
          go_wp2_with (go_at_call 85; refine hst.mono ?_; rintro e w3 ⟨rfl, _, hC3⟩)
          go_ret
          exact ⟨rfl, hB3.trans (hC3.belowCh (fun j e => by have := hB.size; omega) hB3.size)⟩
        · have hki : k ≠ i := fun e => by
            subst e
            rw [hi] at hp
            injection hp with hp
            injection hp with hp
            injection hp with h1 hp
            injection hp with h2 h3
            subst h1 h2 h3
            exact hwt hgo
          have hst2 : ∃ (wt : Bool) (ee : Int), (wt = false → (ee == 0) = false) ∧ Calls Try.prog 85 #[.pointer (some ⟨wr.heap.size, 0, none⟩), memI b2] w2 (SaP w2 true wr.heap.size nb b2 g2 c2 B t (stp true B t x ws).x (stp true B t x ws).ws (.tuple #[.bool wt, .int .i64 ee])) :=
            ⟨_, _, fun h => by simpa using fun h2 => hwt ⟨h, h2⟩, hst⟩
          obtain ⟨wt, ee, hwe, hst2⟩ := hst2
          have HWE := Lib.hid hwe
          clear hst hwt hwe
          cases wt
          · have hee := HWE.out rfl
            go_wp2_with (go_at_call 85; refine hst2.mono ?_; rintro e w3 ⟨rfl, _, hC3⟩)
            go_roundw
            case rel => exact ⟨k + 1, by go_num, by omega, ⟨true, rfl⟩, hB3.trans (hC3.belowCh (fun j e => by have := hB.size; omega) hB3.size)⟩
            case measure => simp [intOf]; omega
          · go_wp2_with (go_at_call 85; refine hst2.mono ?_; rintro e w3 ⟨rfl, _, hC3⟩)
            go_roundw
            case rel => exact ⟨k + 1, by go_num, by omega, ⟨true, rfl⟩, hB3.trans (hC3.belowCh (fun j e => by have := hB.size; omega) hB3.size)⟩
            case measure => simp [intOf]; omega

end Go.Proofs.Ytmlhdcpahfgckaa
