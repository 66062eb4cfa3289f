/-
  Contracts of package stats as layer 51 uses it: join. Printed by gen_fairh3.py out of FairH3.src.
-/
import Derived.Test.YthikpceckiapjaaFairH2
import Derived.Deep.DeepCutAuto
import Derived.Deep.CutBlock
namespace Go.Proofs.Ythikpceckiapjaa
open Go.RowKit

def lowF (h o : Nat → Int) : Int := if emptyB h = true then o 44 else h 44
def joinF (h o : Nat → Int) (i : Nat) : Int := if i < 44 then h i + o i else if i = 44 then (if o 44 < lowF h o then o 44 else lowF h o) else (if h 45 < o 45 then o 45 else h 45)
theorem HAt.keep {F : Nat → Prop} {w w' : World} {b : Nat} {h : Nat → Int} (k : HAt w b h) (hc : Ch F w w') (hf : ¬ F b) : HAt w' b h := Blk.keep k hc hf
theorem HAt.at {w : World} {b : Nat} {h : Nat → Int} (k : HAt w b h) {i : Nat} (hi : i < 46) : w.cell? ⟨b, i, none⟩ = some (.int .i64 (h i)) := (Blk.cell k i).trans (tab_get h hi)
theorem HAt.put {w : World} {b : Nat} {h : Nat → Int} (k : HAt w b h) (i : Nat) (v : Int) : HAt (w.setCell ⟨b, i, none⟩ (.int .i64 v)) b (fun j => if j = i then v else h j) := by
  have := Blk.set k i (.int .i64 v)
  rw [tab_set] at this
  exact this
theorem HAt.eq {w : World} {b : Nat} {h h' : Nat → Int} (k : HAt w b h) (e : ∀ i, i < 46 → h i = h' i) : HAt w b h' := by
  unfold HAt at *
  rw [← tab_congr e]
  exact k
theorem put_ch (w : World) (b i : Nat) (v : Value) : Ch (fun j => j = b) w (w.setCell ⟨b, i, none⟩ v) := (Ch.refl (fun j => j = b) w).setCell (p := ⟨b, i, none⟩) (.inl rfl) v
set_option maxRecDepth 100000 in
set_option maxHeartbeats 4000000 in
theorem join_ok (b : Nat) (h o : Nat → Int) (w : World) (hh : HAt w b h) (hb : ∀ i, i < 46 → 0 ≤ h i ∧ h i ≤ 1152921504606846976) (ob : ∀ i, i < 46 → 0 ≤ o i ∧ o i ≤ 2199023255552) (h42 : h 42 + o 42 ≤ 1099511627776) (h43 : h 43 + o 43 ≤ 4611686018427387904) (ho : emptyB o = false) :
    Calls Try.prog 27 #[.pointer (some ⟨b, 0, none⟩), .agg (tab 46 o).toArray] w fun e w' => e = .returned (.int .i64 0) ∧ HAt w' b (joinF h o) ∧ Ch (fun j => j = b) w w' := by
  have hO0 : HAt (w.alloc (.cells (tab 46 o).toArray 53)) w.heap.size o := Blk.new w _ _
  have hH0 : HAt (w.alloc (.cells (tab 46 o).toArray 53)) b h := hh.keep ((Ch.refl (fun _ => False) _).alloc _) (fun e => e)
  have hC0 : Ch (fun j => j = b) w (w.alloc (.cells (tab 46 o).toArray 53)) := (Ch.refl _ w).alloc _
  have hlt : b < w.heap.size := Blk.lt hh
  go_enter Try.func27, Try.ntmps27
  go_upto_block 0 with fail
  generalize w.alloc (.cells (tab 46 o).toArray 53) = w1 at hO0 hH0 hC0 ⊢
  have HBo := Lib.hid hb
  have OBo := Lib.hid ob
  have a1 := hH0.at (i := 42) (by omega)
  have a2 := hH0.at (i := 43) (by omega)
  have a3 := hO0.at (i := 42) (by omega)
  have a4 := hO0.at (i := 43) (by omega)
  have b1 := hb 42 (by omega)
  have b2 := hb 43 (by omega)
  have b3 := ob 42 (by omega)
  have b4 := ob 43 (by omega)
  clear hb ob
  have HO := Lib.hid ho
  clear ho
  go_cut [] (fun wx => HAt wx b (fun i => if i = 44 then lowF h o else h i) ∧ HAt wx w.heap.size o ∧ Ch (fun j => j = b) w wx)
  case first =>
   go_upto_region 1 with fail
   go_cut [7] (fun s7 wx => s7 = .bool false ∧ HAt wx b h ∧ HAt wx w.heap.size o ∧ Ch (fun j => j = b) w wx)
   case first =>
    generalize h 42 = x1 at *
    generalize h 43 = x2 at *
    generalize o 42 = x3 at *
    generalize o 43 = x4 at *
    have d1 : decide (1099511627776 - x1 < x3) = false := decide_eq_false (by omega)
    have d2 : decide (4611686018427387904 - x2 < x4) = false := decide_eq_false (by omega)
    go_quiet (fail)
    go_wp2_with fail
    go_meet
    exact ⟨rfl, hH0.keep (Ch.of_below (below_drewN (Below.refl _ _) _) (fun _ => False)) (fun e => e), hO0.keep (Ch.of_below (below_drewN (Below.refl _ _) _) (fun _ => False)) (fun e => e), hC0.drewN _⟩
   case rest =>
      clear hO0 hH0 hC0 a1 a2 a3 a4 b1 b2 b3 b4
      obtain ⟨rfl, hH, hO, hC⟩ := hcut
      have he1 := fun W hW => empty_ok w.heap.size o W hW
      have he2 := fun W hW => empty_ok b h W hW
      rw [HO.out] at he1
      cases hem : emptyB h
      · have hl : lowF h o = h 44 := by unfold lowF; rw [hem]; rfl
        rw [hem] at he2
        have HL := Lib.hid hl
        clear hem hl
        go_wp2_with (go_at_call 30; first | ((with_reducible refine (he1 _ hO).mono ?_); rintro e w' ⟨rfl, rfl⟩) | ((with_reducible refine (he2 _ hH).mono ?_); rintro e w' ⟨rfl, rfl⟩))
        go_meet
        exact ⟨hH.eq (fun i _ => by rw [HL.out]; split; rename_i e; rw [e]; rfl), hO, hC⟩
      · have hl : lowF h o = o 44 := by unfold lowF; rw [hem]; rfl
        rw [hem] at he2
        have HL := Lib.hid hl
        have c44 := hO.at (i := 44) (by omega)
        have e44 := hH.at (i := 44) (by omega)
        have f44 := Blk.frozen hH 44
        clear hem hl
        go_wp2_with (go_at_call 30; first | ((with_reducible refine (he1 _ hO).mono ?_); rintro e w' ⟨rfl, rfl⟩) | ((with_reducible refine (he2 _ hH).mono ?_); rintro e w' ⟨rfl, rfl⟩))
        go_meet
        exact ⟨(hH.put 44 _).eq (fun i _ => by rw [HL.out]), hO.keep (put_ch _ b 44 _) (by omega), hC.trans (put_ch _ b 44 _) (fun _ _ e => e)⟩
  case rest =>
      clear hO0 hH0 hC0 a1 a2 a3 a4 b1 b2 b3 b4 HO
      obtain ⟨hH, hO, hC⟩ := hcut
      have hlb : 0 ≤ lowF h o ∧ lowF h o ≤ 1152921504606846976 := by
        unfold lowF
        have q1 := HBo.out 44 (by omega)
        have q2 := OBo.out 44 (by omega)
        split <;> omega
      obtain ⟨v44, hv44⟩ : ∃ v, (if o 44 < lowF h o then o 44 else lowF h o) = v := ⟨_, rfl⟩
      obtain ⟨v45, hv45⟩ : ∃ v, (if h 45 < o 45 then o 45 else h 45) = v := ⟨_, rfl⟩
      go_upto_region 7 with fail
      go_cut [] (fun wx => HAt wx b (fun i => if i = 45 then v45 else if i = 44 then v44 else if i = 44 then lowF h o else h i) ∧ HAt wx w.heap.size o ∧ Ch (fun j => j = b) w wx)
      case first =>
        have hH := hH.keep (Ch.of_below (Below.refl wc.heap.size wc).drew (fun _ => False)) (fun e => e)
        have hO := hO.keep (Ch.of_below (Below.refl wc.heap.size wc).drew (fun _ => False)) (fun e => e)
        have hC := hC.drew
        have k1 : wc.drew.cell? ⟨b, 44, none⟩ = some (.int .i64 (lowF h o)) := hH.at (by omega)
        have k2 : wc.drew.cell? ⟨b, 45, none⟩ = some (.int .i64 (h 45)) := hH.at (by omega)
        have k3 := hO.at (i := 44) (by omega)
        have k4 := hO.at (i := 45) (by omega)
        have kf := Blk.frozen hH 44
        refine wp_region_D (fun w' => w'.cell? ⟨b, 45, none⟩ = some (.int .i64 (h 45)) ∧ w'.cell? ⟨w.heap.size, 44, none⟩ = some (.int .i64 (o 44)) ∧ w'.cell? ⟨w.heap.size, 45, none⟩ = some (.int .i64 (o 45))) [21] (by kernel_rfl) ?hsa (fun hHeld => ?hra)
        case hsa => exact ⟨k2, k3, k4⟩
        case hra =>
          generalize wc.drew = wd at hH hO hC k1 k2 k3 k4 kf hHeld ⊢
          have hSw := hHeld
          clear hHeld
          refine takeD_pure (i := 0) (v := ?va1) rfl (by kernel_rfl) (by kernel_rfl) (by kernel_rfl) (by kernel_rfl) (fun _ _ _ h => h) (by rfl) ?ya1 (fun _ => hSw) ?ra1
          case ya1 => (intro w; go_simp; (try with_reducible rfl))
          case ra1 =>
            try simp only [Act.put, List.setIfInBounds_toArray, List.set_cons_zero, List.set_cons_succ]
            refine takeD_pure (i := 1) (v := ?va2) rfl (by kernel_rfl) (by kernel_rfl) (by kernel_rfl) (by kernel_rfl) (fun _ _ _ h => h) (by rfl) ?ya2 (fun _ => hSw) ?ra2
            case ya2 => (intro w; go_simp; (try with_reducible rfl))
            case ra2 =>
              try simp only [Act.put, List.setIfInBounds_toArray, List.set_cons_zero, List.set_cons_succ]
              refine takeD_pure (i := 2) (v := ?va3) rfl (by kernel_rfl) (by kernel_rfl) (by kernel_rfl) (by kernel_rfl) (fun _ _ _ h => h) (by rfl) ?ya3 (fun _ => hSw) ?ra3
              case ya3 => (intro w; go_simp; (try with_reducible rfl))
              case ra3 =>
                try simp only [Act.put, List.setIfInBounds_toArray, List.set_cons_zero, List.set_cons_succ]
                refine takeD_pure (i := 3) (v := ?va4) rfl (by kernel_rfl) (by kernel_rfl) (by kernel_rfl) (by kernel_rfl) (fun _ _ _ h => h) (by rfl) ?ya4 (fun _ => hSw) ?ra4
                case ya4 => (intro w; go_simp; (try with_reducible rfl))
                case ra4 =>
                  try simp only [Act.put, List.setIfInBounds_toArray, List.set_cons_zero, List.set_cons_succ]
                  refine takeD_pure (i := 4) (v := ?va5) rfl (by kernel_rfl) (by kernel_rfl) (by kernel_rfl) (by kernel_rfl) (fun _ _ _ h => h) (by rfl) ?ya5 (fun _ => hSw) ?ra5
                  case ya5 => (intro w; go_simp; (try with_reducible rfl))
                  case ra5 =>
                    try simp only [Act.put, List.setIfInBounds_toArray, List.set_cons_zero, List.set_cons_succ]
                    refine takeD_pure (i := 6) (v := ?va6) rfl (by kernel_rfl) (by kernel_rfl) (by kernel_rfl) (by kernel_rfl) (fun _ _ _ h => h) (by rfl) ?ya6 (fun _ => hSw) ?ra6
                    case ya6 => (intro w; go_simp; (try with_reducible rfl))
                    case ra6 =>
                      try simp only [Act.put, List.setIfInBounds_toArray, List.set_cons_zero, List.set_cons_succ]
                      refine takeD_load (i := 7) (v := ?va7) rfl (by kernel_rfl) (by kernel_rfl) (by kernel_rfl) (by kernel_rfl) (by kernel_rfl) (by kernel_rfl) (fun _ _ _ h => h) (by rfl) ?ya7 hSw ?ra7
                      case ya7 => (intro w hSw; obtain ⟨y1, y2, y3⟩ := hSw; go_simp; (try with_reducible rfl))
                      case ra7 =>
                        try simp only [Act.put, List.setIfInBounds_toArray, List.set_cons_zero, List.set_cons_succ]
                        refine takeD_pure (i := 9) (v := ?va8) rfl (by kernel_rfl) (by kernel_rfl) (by kernel_rfl) (by kernel_rfl) (fun _ _ _ h => h) (by rfl) ?ya8 (fun _ => hSw) ?ra8
                        case ya8 => (intro w; go_simp; (try with_reducible rfl))
                        case ra8 =>
                          try simp only [Act.put, List.setIfInBounds_toArray, List.set_cons_zero, List.set_cons_succ]
                          refine takeD_pure (i := 10) (v := ?va9) rfl (by kernel_rfl) (by kernel_rfl) (by kernel_rfl) (by kernel_rfl) (fun _ _ _ h => h) (by rfl) ?ya9 (fun _ => hSw) ?ra9
                          case ya9 => (intro w; go_simp; (try with_reducible rfl))
                          case ra9 =>
                            try simp only [Act.put, List.setIfInBounds_toArray, List.set_cons_zero, List.set_cons_succ]
                            refine takeD_pure (i := 11) (v := ?va10) rfl (by kernel_rfl) (by kernel_rfl) (by kernel_rfl) (by kernel_rfl) (fun _ _ _ h => h) (by rfl) ?ya10 (fun _ => hSw) ?ra10
                            case ya10 => (intro w; go_simp; (try with_reducible rfl))
                            case ra10 =>
                              try simp only [Act.put, List.setIfInBounds_toArray, List.set_cons_zero, List.set_cons_succ]
                              refine takeD_load (i := 12) (v := ?va11) rfl (by kernel_rfl) (by kernel_rfl) (by kernel_rfl) (by kernel_rfl) (by kernel_rfl) (by kernel_rfl) (fun _ _ _ h => h) (by rfl) ?ya11 hSw ?ra11
                              case ya11 => (intro w hSw; obtain ⟨y1, y2, y3⟩ := hSw; go_simp; (try with_reducible rfl))
                              case ra11 =>
                                try simp only [Act.put, List.setIfInBounds_toArray, List.set_cons_zero, List.set_cons_succ]
                                refine takeD_pure (i := 13) (v := ?va12) rfl (by kernel_rfl) (by kernel_rfl) (by kernel_rfl) (by kernel_rfl) (fun _ _ _ h => h) (by rfl) ?ya12 (fun _ => hSw) ?ra12
                                case ya12 => (intro w; go_simp; (try with_reducible rfl))
                                case ra12 =>
                                  try simp only [Act.put, List.setIfInBounds_toArray, List.set_cons_zero, List.set_cons_succ]
                                  refine takeD_load (i := 14) (v := ?va13) rfl (by kernel_rfl) (by kernel_rfl) (by kernel_rfl) (by kernel_rfl) (by kernel_rfl) (by kernel_rfl) (fun _ _ _ h => h) (by rfl) ?ya13 hSw ?ra13
                                  case ya13 => (intro w hSw; obtain ⟨y1, y2, y3⟩ := hSw; go_simp; (try with_reducible rfl))
                                  case ra13 =>
                                    try simp only [Act.put, List.setIfInBounds_toArray, List.set_cons_zero, List.set_cons_succ]
                                    refine takeD_pure (i := 15) (v := ?va14) rfl (by kernel_rfl) (by kernel_rfl) (by kernel_rfl) (by kernel_rfl) (fun _ _ _ h => h) (by rfl) ?ya14 (fun _ => hSw) ?ra14
                                    case ya14 => (intro w; go_simp; (try with_reducible rfl))
                                    case ra14 =>
                                      try simp only [Act.put, List.setIfInBounds_toArray, List.set_cons_zero, List.set_cons_succ]
                                      refine wpAnyD_ready (rs := [5]) (by kernel_rfl) (by simp) ?ba15
                                      case ba15 =>
                                        refine consD rfl (fun K hK => ?sa16) ?ma16
                                        case sa16 =>
                                          have hx : wd.cell? ⟨b, 44, none⟩ = some (.int .i64 (lowF h o)) := k1
                                          go_simp
                                          refine hK.out _ _ (fun _ => hSw) ?na16
                                          case na16 =>
                                            clear hK K
                                            try simp only [Act.put, List.setIfInBounds_toArray, List.set_cons_zero, List.set_cons_succ]
                                            refine takeD_pure (i := 8) (v := ?va17) rfl (by kernel_rfl) (by kernel_rfl) (by kernel_rfl) (by kernel_rfl) (fun _ _ _ h => h) (by rfl) ?ya17 (fun _ => hSw) ?ra17
                                            case ya17 => (intro w; go_simp; (try with_reducible rfl))
                                            case ra17 =>
                                              try simp only [Act.put, List.setIfInBounds_toArray, List.set_cons_zero, List.set_cons_succ]
                                              refine takeD_pure (i := 16) (v := ?va18) rfl (by kernel_rfl) (by kernel_rfl) (by kernel_rfl) (by kernel_rfl) (fun _ _ _ h => h) (by rfl) ?ya18 (fun _ => hSw) ?ra18
                                              case ya18 => (intro w; go_simp; (try with_reducible rfl))
                                              case ra18 =>
                                                try simp only [Act.put, List.setIfInBounds_toArray, List.set_cons_zero, List.set_cons_succ]
                                                refine takeD_pure (i := 17) (v := ?va19) rfl (by kernel_rfl) (by kernel_rfl) (by kernel_rfl) (by kernel_rfl) (fun _ _ _ h => h) (by rfl) ?ya19 (fun _ => hSw) ?ra19
                                                case ya19 => (intro w; go_simp; (try with_reducible rfl))
                                                case ra19 =>
                                                  try simp only [Act.put, List.setIfInBounds_toArray, List.set_cons_zero, List.set_cons_succ]
                                                  refine wpAnyD_ready (rs := [18]) (by kernel_rfl) (by simp) ?ba20
                                                  case ba20 =>
                                                    refine consD rfl (fun K hK => ?sa21) ?ma21
                                                    case sa21 =>
                                                      have g1 := (put_ch wd b 44 (.int .i64 (v44))).keeps k3 (show ¬ (w.heap.size = b) by omega)
                                                      have g2 := (put_ch wd b 44 (.int .i64 (v44))).keeps k4 (show ¬ (w.heap.size = b) by omega)
                                                      have g3 : (wd.setCell ⟨b, 44, none⟩ (.int .i64 (v44))).cell? ⟨b, 45, none⟩ = some (.int .i64 (h 45)) := ((hH.put 44 (v44)).at (i := 45) (by omega)).trans (by rfl)
                                                      have hSw := And.intro g3 (And.intro g1 g2)
                                                      clear g1 g2 g3
                                                      go_simp
                                                      refine hK.out _ _ (fun _ => hSw) ?na21
                                                      case na21 =>
                                                        clear hK K
                                                        try simp only [Act.put]
                                                        refine takeD_pure (i := 19) (v := ?va22) rfl (by kernel_rfl) (by kernel_rfl) (by kernel_rfl) (by kernel_rfl) (fun _ _ _ h => h) (by rfl) ?ya22 (fun _ => hSw) ?ra22
                                                        case ya22 => (intro w; go_simp; (try with_reducible rfl))
                                                        case ra22 =>
                                                          try simp only [Act.put, List.setIfInBounds_toArray, List.set_cons_zero, List.set_cons_succ]
                                                          refine takeD_pure (i := 20) (v := ?va23) rfl (by kernel_rfl) (by kernel_rfl) (by kernel_rfl) (by kernel_rfl) (fun _ _ _ h => h) (by rfl) ?ya23 (fun _ => hSw) ?ra23
                                                          case ya23 => (intro w; go_simp; (try with_reducible rfl))
                                                          case ra23 =>
                                                            try simp only [Act.put, List.setIfInBounds_toArray, List.set_cons_zero, List.set_cons_succ]
                                                            refine wpAnyD_ready (rs := [21]) (by kernel_rfl) (by simp) ?ba24
                                                            case ba24 =>
                                                              refine consD rfl (fun K hK => ?sa25) ?ma25
                                                              case sa25 =>
                                                                have f2 := Blk.frozen (hH.put 44 (v44)) 45
                                                                have g3 := hSw.1
                                                                go_simp
                                                                refine hK.out _ _ (noD_no (by kernel_rfl)) ?na25
                                                                case na25 =>
                                                                  clear hK K
                                                                  try simp only [Act.put]
                                                                  refine wpAnyD_done (by kernel_rfl) ?_ _
                                                                  go_wp2_with fail
                                                                  go_meet
                                                                  exact ⟨(hH.put 44 _).put 45 _, (hO.keep (put_ch _ b _ _) (by omega)).keep (put_ch _ b _ _) (by omega), (hC.trans (put_ch _ b _ _) (fun _ _ e => e)).trans (put_ch _ b _ _) (fun _ _ e => e)⟩
                                                              case ma25 =>
                                                                exact AllReadyD.nil
                                                    case ma21 =>
                                                      exact AllReadyD.nil
                                        case ma16 =>
                                          exact AllReadyD.nil
      case rest =>
        clear hH hO hC
        obtain ⟨hH, hO, hC⟩ := hcut
        have HV4 := Lib.hid hv44
        have HV5 := Lib.hid hv45
        clear hv44 hv45
        obtain ⟨g7, hg7⟩ : ∃ g : Nat → Int, (fun i => if i = 45 then v45 else if i = 44 then v44 else if i = 44 then lowF h o else h i) = g := ⟨_, rfl⟩
        rw [hg7] at hH
        have HG7 := Lib.hid hg7
        have z42 : g7 42 = h 42 := by rw [← hg7]; simp
        have z43 : g7 43 = h 43 := by rw [← hg7]; simp
        have q1 := HBo.out 42 (by omega)
        have q2 := HBo.out 43 (by omega)
        have q3 := OBo.out 42 (by omega)
        have q4 := OBo.out 43 (by omega)
        clear hg7 hlb
        obtain ⟨p1, hp1⟩ : ∃ p, h 42 = p := ⟨_, rfl⟩
        obtain ⟨p2, hp2⟩ : ∃ p, h 43 = p := ⟨_, rfl⟩
        obtain ⟨p3, hp3⟩ : ∃ p, o 42 = p := ⟨_, rfl⟩
        obtain ⟨p4, hp4⟩ : ∃ p, o 43 = p := ⟨_, rfl⟩
        rw [hp1, hp3] at h42
        rw [hp2, hp4] at h43
        rw [hp1] at z42 q1
        rw [hp2] at z43 q2
        rw [hp3] at q3
        rw [hp4] at q4
        have HP1 := Lib.hid hp1
        have HP2 := Lib.hid hp2
        have HP3 := Lib.hid hp3
        have HP4 := Lib.hid hp4
        have w1' : IntKind.i64.wrap (p1 + p3) = p1 + p3 := IntWalk.i64_in _ (by omega)
        have w2' : IntKind.i64.wrap (p2 + p4) = p2 + p4 := IntWalk.i64_in _ (by omega)
        have HZ1 := Lib.hid z42
        have HZ2 := Lib.hid z43
        clear hp1 hp2 hp3 hp4 z42 z43
        go_upto_region 8 with fail
        go_cut [] (fun wx => HAt wx b (fun i => if i = 43 then p2 + p4 else if i = 42 then p1 + p3 else g7 i) ∧ HAt wx w.heap.size o ∧ Ch (fun j => j = b) w wx)
        case first =>
          have hH := hH.keep (Ch.of_below (Below.refl wc.heap.size wc).drew (fun _ => False)) (fun e => e)
          have hO := hO.keep (Ch.of_below (Below.refl wc.heap.size wc).drew (fun _ => False)) (fun e => e)
          have hC := hC.drew
          have k1 : wc.drew.cell? ⟨b, 42, none⟩ = some (.int .i64 p1) := by rw [← HZ1.out]; exact hH.at (by omega)
          have k2 : wc.drew.cell? ⟨b, 43, none⟩ = some (.int .i64 p2) := by rw [← HZ2.out]; exact hH.at (by omega)
          have k3 : wc.drew.cell? ⟨w.heap.size, 42, none⟩ = some (.int .i64 p3) := by rw [← HP3.out]; exact hO.at (i := 42) (by omega)
          have k4 : wc.drew.cell? ⟨w.heap.size, 43, none⟩ = some (.int .i64 p4) := by rw [← HP4.out]; exact hO.at (i := 43) (by omega)
          have kf := Blk.frozen hH 42
          refine wp_region_D (fun w' => w'.cell? ⟨b, 43, none⟩ = some (.int .i64 p2) ∧ w'.cell? ⟨w.heap.size, 42, none⟩ = some (.int .i64 p3) ∧ w'.cell? ⟨w.heap.size, 43, none⟩ = some (.int .i64 p4)) [21] (by kernel_rfl) ?hsb (fun hHeld => ?hrb)
          case hsb => exact ⟨k2, k3, k4⟩
          case hrb =>
            generalize wc.drew = wd at hH hO hC k1 k2 k3 k4 kf hHeld ⊢
            have hSw := hHeld
            clear hHeld
            refine takeD_pure (i := 0) (v := ?vb1) rfl (by kernel_rfl) (by kernel_rfl) (by kernel_rfl) (by kernel_rfl) (fun _ _ _ h => h) (by rfl) ?yb1 (fun _ => hSw) ?rb1
            case yb1 => (intro w; go_simp; (try with_reducible rfl))
            case rb1 =>
              try simp only [Act.put, List.setIfInBounds_toArray, List.set_cons_zero, List.set_cons_succ]
              refine takeD_pure (i := 1) (v := ?vb2) rfl (by kernel_rfl) (by kernel_rfl) (by kernel_rfl) (by kernel_rfl) (fun _ _ _ h => h) (by rfl) ?yb2 (fun _ => hSw) ?rb2
              case yb2 => (intro w; go_simp; (try with_reducible rfl))
              case rb2 =>
                try simp only [Act.put, List.setIfInBounds_toArray, List.set_cons_zero, List.set_cons_succ]
                refine takeD_pure (i := 2) (v := ?vb3) rfl (by kernel_rfl) (by kernel_rfl) (by kernel_rfl) (by kernel_rfl) (fun _ _ _ h => h) (by rfl) ?yb3 (fun _ => hSw) ?rb3
                case yb3 => (intro w; go_simp; (try with_reducible rfl))
                case rb3 =>
                  try simp only [Act.put, List.setIfInBounds_toArray, List.set_cons_zero, List.set_cons_succ]
                  refine takeD_pure (i := 3) (v := ?vb4) rfl (by kernel_rfl) (by kernel_rfl) (by kernel_rfl) (by kernel_rfl) (fun _ _ _ h => h) (by rfl) ?yb4 (fun _ => hSw) ?rb4
                  case yb4 => (intro w; go_simp; (try with_reducible rfl))
                  case rb4 =>
                    try simp only [Act.put, List.setIfInBounds_toArray, List.set_cons_zero, List.set_cons_succ]
                    refine takeD_pure (i := 4) (v := ?vb5) rfl (by kernel_rfl) (by kernel_rfl) (by kernel_rfl) (by kernel_rfl) (fun _ _ _ h => h) (by rfl) ?yb5 (fun _ => hSw) ?rb5
                    case yb5 => (intro w; go_simp; (try with_reducible rfl))
                    case rb5 =>
                      try simp only [Act.put, List.setIfInBounds_toArray, List.set_cons_zero, List.set_cons_succ]
                      refine takeD_pure (i := 6) (v := ?vb6) rfl (by kernel_rfl) (by kernel_rfl) (by kernel_rfl) (by kernel_rfl) (fun _ _ _ h => h) (by rfl) ?yb6 (fun _ => hSw) ?rb6
                      case yb6 => (intro w; go_simp; (try with_reducible rfl))
                      case rb6 =>
                        try simp only [Act.put, List.setIfInBounds_toArray, List.set_cons_zero, List.set_cons_succ]
                        refine takeD_load (i := 7) (v := ?vb7) rfl (by kernel_rfl) (by kernel_rfl) (by kernel_rfl) (by kernel_rfl) (by kernel_rfl) (by kernel_rfl) (fun _ _ _ h => h) (by rfl) ?yb7 hSw ?rb7
                        case yb7 => (intro w hSw; obtain ⟨y1, y2, y3⟩ := hSw; go_simp; (try with_reducible rfl))
                        case rb7 =>
                          try simp only [Act.put, List.setIfInBounds_toArray, List.set_cons_zero, List.set_cons_succ]
                          refine takeD_pure (i := 9) (v := ?vb8) rfl (by kernel_rfl) (by kernel_rfl) (by kernel_rfl) (by kernel_rfl) (fun _ _ _ h => h) (by rfl) ?yb8 (fun _ => hSw) ?rb8
                          case yb8 => (intro w; go_simp; (try with_reducible rfl))
                          case rb8 =>
                            try simp only [Act.put, List.setIfInBounds_toArray, List.set_cons_zero, List.set_cons_succ]
                            refine takeD_pure (i := 10) (v := ?vb9) rfl (by kernel_rfl) (by kernel_rfl) (by kernel_rfl) (by kernel_rfl) (fun _ _ _ h => h) (by rfl) ?yb9 (fun _ => hSw) ?rb9
                            case yb9 => (intro w; go_simp; (try with_reducible rfl))
                            case rb9 =>
                              try simp only [Act.put, List.setIfInBounds_toArray, List.set_cons_zero, List.set_cons_succ]
                              refine takeD_pure (i := 11) (v := ?vb10) rfl (by kernel_rfl) (by kernel_rfl) (by kernel_rfl) (by kernel_rfl) (fun _ _ _ h => h) (by rfl) ?yb10 (fun _ => hSw) ?rb10
                              case yb10 => (intro w; go_simp; (try with_reducible rfl))
                              case rb10 =>
                                try simp only [Act.put, List.setIfInBounds_toArray, List.set_cons_zero, List.set_cons_succ]
                                refine takeD_load (i := 12) (v := ?vb11) rfl (by kernel_rfl) (by kernel_rfl) (by kernel_rfl) (by kernel_rfl) (by kernel_rfl) (by kernel_rfl) (fun _ _ _ h => h) (by rfl) ?yb11 hSw ?rb11
                                case yb11 => (intro w hSw; obtain ⟨y1, y2, y3⟩ := hSw; go_simp; (try with_reducible rfl))
                                case rb11 =>
                                  try simp only [Act.put, List.setIfInBounds_toArray, List.set_cons_zero, List.set_cons_succ]
                                  refine takeD_pure (i := 13) (v := ?vb12) rfl (by kernel_rfl) (by kernel_rfl) (by kernel_rfl) (by kernel_rfl) (fun _ _ _ h => h) (by rfl) ?yb12 (fun _ => hSw) ?rb12
                                  case yb12 => (intro w; go_simp; (try with_reducible rfl))
                                  case rb12 =>
                                    try simp only [Act.put, List.setIfInBounds_toArray, List.set_cons_zero, List.set_cons_succ]
                                    refine takeD_load (i := 14) (v := ?vb13) rfl (by kernel_rfl) (by kernel_rfl) (by kernel_rfl) (by kernel_rfl) (by kernel_rfl) (by kernel_rfl) (fun _ _ _ h => h) (by rfl) ?yb13 hSw ?rb13
                                    case yb13 => (intro w hSw; obtain ⟨y1, y2, y3⟩ := hSw; go_simp; (try with_reducible rfl))
                                    case rb13 =>
                                      try simp only [Act.put, List.setIfInBounds_toArray, List.set_cons_zero, List.set_cons_succ]
                                      refine takeD_pure (i := 15) (v := ?vb14) rfl (by kernel_rfl) (by kernel_rfl) (by kernel_rfl) (by kernel_rfl) (fun _ _ _ h => h) (by rfl) ?yb14 (fun _ => hSw) ?rb14
                                      case yb14 => (intro w; go_simp; (try with_reducible rfl))
                                      case rb14 =>
                                        try simp only [Act.put, List.setIfInBounds_toArray, List.set_cons_zero, List.set_cons_succ]
                                        refine wpAnyD_ready (rs := [5]) (by kernel_rfl) (by simp) ?bb15
                                        case bb15 =>
                                          refine consD rfl (fun K hK => ?sb16) ?mb16
                                          case sb16 =>
                                            have hx : wd.cell? ⟨b, 42, none⟩ = some (.int .i64 p1) := k1
                                            go_simp
                                            refine hK.out _ _ (fun _ => hSw) ?nb16
                                            case nb16 =>
                                              clear hK K
                                              try simp only [Act.put, List.setIfInBounds_toArray, List.set_cons_zero, List.set_cons_succ]
                                              refine takeD_pure (i := 8) (v := ?vb17) rfl (by kernel_rfl) (by kernel_rfl) (by kernel_rfl) (by kernel_rfl) (fun _ _ _ h => h) (by rfl) ?yb17 (fun _ => hSw) ?rb17
                                              case yb17 => (intro w; go_simp; (try with_reducible rfl))
                                              case rb17 =>
                                                try simp only [Act.put, List.setIfInBounds_toArray, List.set_cons_zero, List.set_cons_succ]
                                                refine takeD_pure (i := 16) (v := ?vb18) rfl (by kernel_rfl) (by kernel_rfl) (by kernel_rfl) (by kernel_rfl) (fun _ _ _ h => h) (by rfl) ?yb18 (fun _ => hSw) ?rb18
                                                case yb18 => (intro w; go_simp; (try with_reducible rfl))
                                                case rb18 =>
                                                  try simp only [Act.put, List.setIfInBounds_toArray, List.set_cons_zero, List.set_cons_succ]
                                                  refine takeD_pure (i := 17) (v := ?vb19) rfl (by kernel_rfl) (by kernel_rfl) (by kernel_rfl) (by kernel_rfl) (fun _ _ _ h => h) (by rfl) ?yb19 (fun _ => hSw) ?rb19
                                                  case yb19 => (intro w; go_simp; (try with_reducible rfl))
                                                  case rb19 =>
                                                    try simp only [Act.put, List.setIfInBounds_toArray, List.set_cons_zero, List.set_cons_succ]
                                                    refine wpAnyD_ready (rs := [18]) (by kernel_rfl) (by simp) ?bb20
                                                    case bb20 =>
                                                      refine consD rfl (fun K hK => ?sb21) ?mb21
                                                      case sb21 =>
                                                        have g1 := (put_ch wd b 42 (.int .i64 (p1 + p3))).keeps k3 (show ¬ (w.heap.size = b) by omega)
                                                        have g2 := (put_ch wd b 42 (.int .i64 (p1 + p3))).keeps k4 (show ¬ (w.heap.size = b) by omega)
                                                        have g3 : (wd.setCell ⟨b, 42, none⟩ (.int .i64 (p1 + p3))).cell? ⟨b, 43, none⟩ = some (.int .i64 p2) := ((hH.put 42 (p1 + p3)).at (i := 43) (by omega)).trans (by rw [if_neg (by decide), HZ2.out])
                                                        have hSw := And.intro g3 (And.intro g1 g2)
                                                        clear g1 g2 g3
                                                        go_simp
                                                        refine hK.out _ _ (fun _ => hSw) ?nb21
                                                        case nb21 =>
                                                          clear hK K
                                                          try simp only [Act.put]
                                                          refine takeD_pure (i := 19) (v := ?vb22) rfl (by kernel_rfl) (by kernel_rfl) (by kernel_rfl) (by kernel_rfl) (fun _ _ _ h => h) (by rfl) ?yb22 (fun _ => hSw) ?rb22
                                                          case yb22 => (intro w; go_simp; (try with_reducible rfl))
                                                          case rb22 =>
                                                            try simp only [Act.put, List.setIfInBounds_toArray, List.set_cons_zero, List.set_cons_succ]
                                                            refine takeD_pure (i := 20) (v := ?vb23) rfl (by kernel_rfl) (by kernel_rfl) (by kernel_rfl) (by kernel_rfl) (fun _ _ _ h => h) (by rfl) ?yb23 (fun _ => hSw) ?rb23
                                                            case yb23 => (intro w; go_simp; (try with_reducible rfl))
                                                            case rb23 =>
                                                              try simp only [Act.put, List.setIfInBounds_toArray, List.set_cons_zero, List.set_cons_succ]
                                                              refine wpAnyD_ready (rs := [21]) (by kernel_rfl) (by simp) ?bb24
                                                              case bb24 =>
                                                                refine consD rfl (fun K hK => ?sb25) ?mb25
                                                                case sb25 =>
                                                                  have f2 := Blk.frozen (hH.put 42 (p1 + p3)) 43
                                                                  have g3 := hSw.1
                                                                  go_simp
                                                                  refine hK.out _ _ (noD_no (by kernel_rfl)) ?nb25
                                                                  case nb25 =>
                                                                    clear hK K
                                                                    try simp only [Act.put]
                                                                    refine wpAnyD_done (by kernel_rfl) ?_ _
                                                                    go_wp2_with fail
                                                                    go_meet
                                                                    exact ⟨(hH.put 42 _).put 43 _, (hO.keep (put_ch _ b _ _) (by omega)).keep (put_ch _ b _ _) (by omega), (hC.trans (put_ch _ b _ _) (fun _ _ e => e)).trans (put_ch _ b _ _) (fun _ _ e => e)⟩
                                                                case mb25 =>
                                                                  exact AllReadyD.nil
                                                      case mb21 =>
                                                        exact AllReadyD.nil
                                          case mb16 =>
                                            exact AllReadyD.nil
        case rest =>
          clear hH hO hC q1 q2 q3 q4 w1' w2'
          obtain ⟨hH, hO, hC⟩ := hcut
          obtain ⟨g8, hg8⟩ : ∃ g : Nat → Int, (fun i => if i = 43 then p2 + p4 else if i = 42 then p1 + p3 else g7 i) = g := ⟨_, rfl⟩
          rw [hg8] at hH
          have HG8 := Lib.hid hg8
          clear hg8
          have g8lo : ∀ i, i < 42 → g8 i = h i := fun i hi => by
            rw [← HG8.out, ← HG7.out]
            simp only [show ¬ i = 43 by omega, show ¬ i = 42 by omega, show ¬ i = 45 by omega, show ¬ i = 44 by omega, if_false]
          have hOb := hO.buckets
          go_upto_region 10 with (refine wl_load 51 _ (w.heap.size) (0) (tab 42 o) _ ?_ ?_ Try.underlying51 ?_ ?_ ?_; (focus rfl); (focus (exact hOb)); (focus rfl); (focus kernel_rfl))
          clear hOb hO
          go_loopw [78] (fun v78 wr => ∃ k : Nat, k ≤ 42 ∧ v78 = .int .i64 k ∧ HAt wr b (fun i => if i < k then h i + o i else g8 i) ∧ Ch (fun j => j = b) w wr) (fun v _ => 42 - (intOf v).toNat)
          case atStart => exact ⟨0, Nat.zero_le _, rfl, hH.eq (fun i _ => by rw [if_neg (by omega)]), hC⟩
          case round =>
            clear hH hC
            obtain ⟨k, hk, rfl, hH, hC⟩ := hrel
            by_cases hlt : k < 42
            · have hix := index_tab o hlt
              have b1 := HBo.out k (by omega)
              have b2 := OBo.out k (by omega)
              obtain ⟨x1, hx1⟩ : ∃ p, h k = p := ⟨_, rfl⟩
              obtain ⟨x2, hx2⟩ : ∃ p, o k = p := ⟨_, rfl⟩
              rw [hx2] at hix b2
              rw [hx1] at b1
              have HX1 := Lib.hid hx1
              have HX2 := Lib.hid hx2
              have k1 : wr.cell? ⟨b, k, none⟩ = some (.int .i64 x1) := by
                have := hH.at (i := k) (by omega)
                rw [if_neg (by omega), g8lo k hlt, hx1] at this
                exact this
              have kf := Blk.frozen hH k
              have hbl := Blk.lt hH
              have wx : IntKind.i64.wrap (x1 + x2) = x1 + x2 := IntWalk.i64_in _ (by omega)
              have i1 : (0 : Int) ≤ k := Int.natCast_nonneg _
              have i2 : (k : Int) < 42 := by omega
              clear hx1 hx2
              have HG8L := Lib.hid g8lo
              clear g8lo
              go_upto_region 12 with fail
              have hH := hH.keep (Ch.of_below (Below.refl wr.heap.size wr).drew (fun _ => False)) (fun e => e)
              have hC := hC.drew
              have k1 := (Below.cell (Below.refl wr.heap.size wr).drew (p := ⟨b, k, none⟩) hbl).trans k1
              have kf := Blk.frozen hH k
              refine wp_region_D (fun w' => w'.cell? ⟨b, k, none⟩ = some (.int .i64 x1)) [11] (by kernel_rfl) ?hsc (fun hHeld => ?hrc)
              case hsc => exact k1
              case hrc =>
                generalize wr.drew = wd at hH hC k1 kf hHeld ⊢
                have hSw := hHeld
                clear hHeld
                refine takeD_pure (i := 0) (v := ?vc1) rfl (by kernel_rfl) (by kernel_rfl) (by kernel_rfl) (by kernel_rfl) (fun _ _ _ h => h) (by rfl) ?yc1 (fun _ => hSw) ?rc1
                case yc1 => (intro w; go_simp; (try with_reducible rfl))
                case rc1 =>
                  try simp only [Act.put, List.setIfInBounds_toArray, List.set_cons_zero, List.set_cons_succ]
                  refine takeD_pure (i := 1) (v := ?vc2) rfl (by kernel_rfl) (by kernel_rfl) (by kernel_rfl) (by kernel_rfl) (fun _ _ _ h => h) (by rfl) ?yc2 (fun _ => hSw) ?rc2
                  case yc2 => (intro w; go_simp; (try with_reducible rfl))
                  case rc2 =>
                    try simp only [Act.put, List.setIfInBounds_toArray, List.set_cons_zero, List.set_cons_succ]
                    refine takeD_pure (i := 2) (v := ?vc3) rfl (by kernel_rfl) (by kernel_rfl) (by kernel_rfl) (by kernel_rfl) (fun _ _ _ h => h) (by rfl) ?yc3 (fun _ => hSw) ?rc3
                    case yc3 => (intro w; go_simp; (try with_reducible rfl))
                    case rc3 =>
                      try simp only [Act.put, List.setIfInBounds_toArray, List.set_cons_zero, List.set_cons_succ]
                      refine takeD_pure (i := 3) (v := ?vc4) rfl (by kernel_rfl) (by kernel_rfl) (by kernel_rfl) (by kernel_rfl) (fun _ _ _ h => h) (by rfl) ?yc4 (fun _ => hSw) ?rc4
                      case yc4 => (intro w; go_simp; (try with_reducible rfl))
                      case rc4 =>
                        try simp only [Act.put, List.setIfInBounds_toArray, List.set_cons_zero, List.set_cons_succ]
                        refine takeD_pure (i := 4) (v := ?vc5) rfl (by kernel_rfl) (by kernel_rfl) (by kernel_rfl) (by kernel_rfl) (fun _ _ _ h => h) (by rfl) ?yc5 (fun _ => hSw) ?rc5
                        case yc5 => (intro w; go_simp; (try with_reducible rfl))
                        case rc5 =>
                          try simp only [Act.put, List.setIfInBounds_toArray, List.set_cons_zero, List.set_cons_succ]
                          refine takeD_load (i := 5) (v := ?vc6) rfl (by kernel_rfl) (by kernel_rfl) (by kernel_rfl) (by kernel_rfl) (by kernel_rfl) (by kernel_rfl) (fun _ _ _ h => h) (by rfl) ?yc6 hSw ?rc6
                          case yc6 => (intro w hSw; have y1 := hSw; go_simp; (try with_reducible rfl))
                          case rc6 =>
                            try simp only [Act.put, List.setIfInBounds_toArray, List.set_cons_zero, List.set_cons_succ]
                            refine takeD_pure (i := 6) (v := ?vc7) rfl (by kernel_rfl) (by kernel_rfl) (by kernel_rfl) (by kernel_rfl) (fun _ _ _ h => h) (by rfl) ?yc7 (fun _ => hSw) ?rc7
                            case yc7 => (intro w; go_simp; (try with_reducible rfl))
                            case rc7 =>
                              try simp only [Act.put, List.setIfInBounds_toArray, List.set_cons_zero, List.set_cons_succ]
                              refine takeD_pure (i := 7) (v := ?vc8) rfl (by kernel_rfl) (by kernel_rfl) (by kernel_rfl) (by kernel_rfl) (fun _ _ _ h => h) (by rfl) ?yc8 (fun _ => hSw) ?rc8
                              case yc8 => (intro w; go_simp; (try with_reducible rfl))
                              case rc8 =>
                                try simp only [Act.put, List.setIfInBounds_toArray, List.set_cons_zero, List.set_cons_succ]
                                refine takeD_pure (i := 8) (v := ?vc9) rfl (by kernel_rfl) (by kernel_rfl) (by kernel_rfl) (by kernel_rfl) (fun _ _ _ h => h) (by rfl) ?yc9 (fun _ => hSw) ?rc9
                                case yc9 => (intro w; go_simp; (try with_reducible rfl))
                                case rc9 =>
                                  try simp only [Act.put, List.setIfInBounds_toArray, List.set_cons_zero, List.set_cons_succ]
                                  refine takeD_pure (i := 9) (v := ?vc10) rfl (by kernel_rfl) (by kernel_rfl) (by kernel_rfl) (by kernel_rfl) (fun _ _ _ h => h) (by rfl) ?yc10 (fun _ => hSw) ?rc10
                                  case yc10 => (intro w; go_simp; (try with_reducible rfl))
                                  case rc10 =>
                                    try simp only [Act.put, List.setIfInBounds_toArray, List.set_cons_zero, List.set_cons_succ]
                                    refine takeD_pure (i := 10) (v := ?vc11) rfl (by kernel_rfl) (by kernel_rfl) (by kernel_rfl) (by kernel_rfl) (fun _ _ _ h => h) (by rfl) ?yc11 (fun _ => hSw) ?rc11
                                    case yc11 => (intro w; go_simp; (try with_reducible rfl))
                                    case rc11 =>
                                      try simp only [Act.put, List.setIfInBounds_toArray, List.set_cons_zero, List.set_cons_succ]
                                      refine wpAnyD_ready (rs := [11]) (by kernel_rfl) (by simp) ?bc12
                                      case bc12 =>
                                        refine consD rfl (fun K hK => ?sc13) ?mc13
                                        case sc13 =>
                                          go_simp
                                          refine hK.out _ _ (noD_no (by kernel_rfl)) ?nc13
                                          case nc13 =>
                                            clear hK K
                                            try simp only [Act.put]
                                            refine wpAnyD_done (by kernel_rfl) ?_ _
                                            go_wp2_with fail
                                            go_roundw
                                            case rel => exact ⟨k + 1, by omega, by go_num, (hH.put k (x1 + x2)).eq (fun i hi => by
                            by_cases e : i = k
                            · rw [if_pos e, if_pos (by omega), e, HX1.out, HX2.out]
                            · rw [if_neg e]
                              by_cases e2 : i < k
                              · rw [if_pos e2, if_pos (by omega)]
                              · rw [if_neg e2, if_neg (by omega)]), hC.trans (put_ch _ b _ _) (fun _ _ e => e)⟩
                                            case measure => simp [intOf]; omega
                                        case mc13 =>
                                          exact AllReadyD.nil
            · obtain rfl : k = 42 := by omega
              have hfin : HAt wr b (joinF h o) := hH.eq (fun i hi => by
                unfold joinF
                by_cases h1 : i < 42
                · rw [if_pos h1, if_pos (by omega)]
                · rw [if_neg h1, ← HG8.out, ← HG7.out]
                  obtain rfl | rfl | rfl | rfl : i = 42 ∨ i = 43 ∨ i = 44 ∨ i = 45 := by omega
                  · show p1 + p3 = h 42 + o 42
                    rw [HP1.out, HP3.out]
                  · show p2 + p4 = h 43 + o 43
                    rw [HP2.out, HP4.out]
                  · show v44 = (if o 44 < lowF h o then o 44 else lowF h o)
                    rw [HV4.out]
                  · show v45 = (if h 45 < o 45 then o 45 else h 45)
                    rw [HV5.out])
              clear hH g8lo
              go_wp2_with fail
              go_ret
              exact ⟨rfl, hfin, hC⟩
end Go.Proofs.Ythikpceckiapjaa
