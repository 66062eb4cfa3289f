/-
  The walk of McsPlays: it returns true at every input. Printed by gen_wmcsplays.py.
-/
import Derived.Test.YtmlhdcpahfgckaaMcsF
import Derived.Test.YtmlhdcpahfgckaaK08
import Derived.Deep.DeepCutAuto
import Derived.IntWalk
namespace Go.Proofs.Ytmlhdcpahfgckaa
open Go.RowKit
namespace McsPlays

theorem wf_u8 {x : Int} (h : (Lit.int .u8 x).wf = true) : 0 ≤ x ∧ x ≤ 255 := by
  simp [Lit.wf, IntKind.min, IntKind.max, IntKind.signed, IntKind.bits] at h
  omega
theorem make_prog (n : Nat) (hn : n ≤ 1000) (w : World) :
    (Instr.makeSlice 42 (.int .u8 (n : Int)) (.int .u8 (n : Int))).run Try.prog w = .ok (.slice (some ⟨w.heap.size, 0, none⟩) n n) (w.alloc (.cells (List.replicate n Value.nilIface).toArray 33)) := by
  have hinfo : (Try.prog.info? 33).map (fun i => (i.zero, i.size, i.bytes)) = some (some .nilIface, 1, 16) := by kernel_rfl
  obtain ⟨i0, hi0, hz0, hz1, hz2⟩ := info_parts hinfo
  have hr := run_make (P := Try.prog) w 42 33 i0 _ Try.underlying42 hi0 hz0 .u8 .u8 n n (by omega) (by omega) (by rw [hz2]; omega) (by omega)
  rw [hz1] at hr
  simp only [Int.toNat_natCast, Nat.mul_one] at hr
  rw [show (Value.nilIface).cells = #[.nilIface] from rfl, madeCells_one] at hr
  exact hr
theorem make_bool (n : Nat) (hn : n ≤ 1000) (w : World) :
    (Instr.makeSlice 44 (.int .u8 (n : Int)) (.int .u8 (n : Int))).run Try.prog w = .ok (.slice (some ⟨w.heap.size, 0, none⟩) n n) (w.alloc (.cells (List.replicate n (Value.bool false)).toArray 4)) := by
  have hinfo : (Try.prog.info? 4).map (fun i => (i.zero, i.size, i.bytes)) = some (some (.bool false), 1, 1) := by kernel_rfl
  obtain ⟨i0, hi0, hz0, hz1, hz2⟩ := info_parts hinfo
  have hr := run_make (P := Try.prog) w 44 4 i0 _ Try.underlying44 hi0 hz0 .u8 .u8 n n (by omega) (by omega) (by rw [hz2]; omega) (by omega)
  rw [hz1] at hr
  simp only [Int.toNat_natCast, Nat.mul_one] at hr
  rw [show (Value.bool false).cells = #[.bool false] from rfl, madeCells_one] at hr
  exact hr
theorem guard_nil (p : Option (Nat × Bool × Rn)) (a : Operand) (w : World) : (eqGuard BinOp.eql 33 a (.const .nilIface) (progV p) .nilIface).run Try.prog w = .ok () w := by
  rcases p with _ | ⟨r, bk, x⟩
  · cases a <;> kernel_rfl
  · cases bk <;> kernel_rfl
theorem eq_nil (p : Option (Nat × Bool × Rn)) (w : World) : (binOp BinOp.eql 33 (progV p) .nilIface).run Try.prog w = .ok (.bool p.isNone) w := by
  rcases p with _ | ⟨r, bk, x⟩
  · kernel_rfl
  · cases bk <;> kernel_rfl
theorem map_progV_set (pl : List (Option (Nat × Bool × Rn))) (t r : Nat) (bk : Bool) (x x' : Rn) (h : pl[t]? = some (some (r, bk, x))) : (pl.set t (some (r, bk, x'))).map progV = pl.map progV := by
  rw [List.map_set]
  apply List.ext_getElem?
  intro i
  by_cases e : t = i
  · subst e
    have hl := (List.getElem?_eq_some_iff.1 h).1
    rw [List.getElem?_set_self (by simpa using hl), List.getElem?_map, h]
    rfl
  · rw [List.getElem?_set_ne e]
theorem make_run (n : Nat) (hn : n ≤ 1000) : ∃ cs : List Value, cs.length = n * 8 ∧ ∀ w,
    (Instr.makeSlice 43 (.int .u8 (n : Int)) (.int .u8 (n : Int))).run Try.prog w = .ok (.slice (some ⟨w.heap.size, 0, none⟩) n n) (w.alloc (.cells cs.toArray 46)) := by
  have hinfo : (Try.prog.info? 46).map (fun i => (i.zero, i.size, i.bytes)) = some (some (.agg z8.toArray), 8, 64) := by kernel_rfl
  obtain ⟨i0, hi0, hz0, hz1, hz2⟩ := info_parts hinfo
  refine ⟨(madeCells z8.toArray (n * 8)).toList, by rw [Array.length_toList, size_madeCells], fun w => ?_⟩
  have hr := run_make (P := Try.prog) w 43 46 i0 _ Try.underlying43 hi0 hz0 .u8 .u8 n n (by omega) (by omega) (by rw [hz2]; omega) (by omega)
  rw [hz1] at hr
  simp only [Int.toNat_natCast] at hr
  rw [show (Value.agg z8.toArray).cells = z8.toArray from rfl] at hr
  rw [Array.toArray_toList]
  exact hr
theorem rc8_one (nn : Int) (bk : Bool) (y : Rn) : (rc8 1 nn bk y).toArray.all (·.oneCell') = true := by simp [Value.oneCell']
theorem wl_store {P : Program} {ops : Array Oper} {rest : List Oper} {Q : Exit → Act → World → Prop} {a : Act} {w : World} {dst : Option Tmp} {type : TypeId} {pos : String} {after : Array Edge} (ty : TypeId) (x y : Operand) (b o : Nat) (cells : Array Value) (hx : a.eval x = .pointer (some ⟨b, o, none⟩)) (hy : a.eval y = .agg cells)
    (ht : w.there b o cells.size) (hi : (P.info? ty).map (·.size) = some cells.size) (h1 : cells.all (·.oneCell') = true) (h : wpList P ops Q rest (a.put dst undef) (w.setCells b o cells.toList)) :
    wpList P ops Q ({ dst := dst, op := .store ty x y, type := type, pos := pos, after := after, guard := none } :: rest) a w :=
  wpList_store_mid rfl ty x y rfl b o cells hx hy ht hi h1 h
theorem at0 (w : World) (cs : List Value) (T : TypeId) (o X Y Z : Obj) (h : o = .cells cs.toArray T) : Blk ((((w.alloc o).alloc X).alloc Y).alloc Z).drew w.heap.size T cs := by
  subst h
  exact (Blk.new w T cs).keep (((((Ch.refl (fun _ => False) _).alloc X).alloc Y).alloc Z).drew) (fun e => e)
theorem at1 (w : World) (cs : List Value) (T : TypeId) (o X Y Z : Obj) (h : X = .cells cs.toArray T) : Blk ((((w.alloc o).alloc X).alloc Y).alloc Z).drew (w.heap.size + 1) T cs := by
  subst h
  have := (Blk.new (w.alloc o) T cs).keep ((((Ch.refl (fun _ => False) _).alloc Y).alloc Z).drew) (fun e => e)
  rwa [World.size_alloc] at this
theorem at2 (w : World) (cs : List Value) (T : TypeId) (o X Y Z : Obj) (h : Y = .cells cs.toArray T) : Blk ((((w.alloc o).alloc X).alloc Y).alloc Z).drew (w.heap.size + 1 + 1) T cs := by
  subst h
  have := (Blk.new ((w.alloc o).alloc X) T cs).keep (((Ch.refl (fun _ => False) _).alloc Z).drew) (fun e => e)
  rwa [World.size_alloc, World.size_alloc] at this
theorem at3 (w : World) (cs : List Value) (T : TypeId) (o X Y Z : Obj) (h : Z = .cells cs.toArray T) : Blk ((((w.alloc o).alloc X).alloc Y).alloc Z).drew (w.heap.size + 1 + 1 + 1) T cs := by
  subst h
  have := (Blk.new (((w.alloc o).alloc X).alloc Y) T cs).keep ((Ch.refl (fun _ => False) _).drew) (fun e => e)
  rwa [World.size_alloc, World.size_alloc, World.size_alloc] at this
set_option maxRecDepth 100000 in
set_option maxHeartbeats 4000000 in
theorem walk (a0 : Int) (w0 : (Lit.int .u8 a0).wf = true) (A : Option Addr) (m c : Nat) (xs : List Int) (l : xs.length = m) (hmc : m ≤ c) (hcm : c ≤ 9223372036854775807) (_hz : A = none → c = 0) (W : World)
    (hr : Rd (fun b => b < W.heap.size) W A (xs.map (Value.int .u8))) (hwf : ∀ x ∈ xs, (Lit.int .u8 x).wf = true) :
    Calls Try.prog 4 #[.int .u8 a0, .slice A m c] W fun e w' => e = .returned (.bool true) ∧ Below W.heap.size W w' := by
  subst l
  have h0 := wf_u8 w0
  clear w0
  by_cases hbad : a0 < 1 ∨ 6 < a0 ∨ 150 < xs.length
  · have d3 : decide (150 < (xs.length : Int)) = decide (150 < xs.length) := by rw [decide_eq_decide]; omega
    go_enter Try.func4, Try.ntmps4
    go_wp2_with (go_at_call 8; refine (known_ok _).mono ?_; rintro e w' ⟨rfl, hkb⟩)
    all_goals first
      | (go_ret; exact ⟨rfl, by (repeat' (first | (with_reducible exact Below.refl _ _) | (with_reducible assumption) | (with_reducible refine Below.alloc ?_ ?_ _) | (with_reducible refine Below.drew ?_) | (with_reducible refine below_drewN ?_ _) | (with_reducible refine Below.setCell ?_ ?_ _) | (with_reducible refine Below.trans ?_ (Below.mono (by assumption) ?_)) | (first | go_size | (with_reducible exact Below.size (by assumption)) | (with_reducible exact Nat.le_trans (Below.size (by assumption)) (Below.size (by assumption))) | (refine Nat.le_trans (Below.size (by assumption)) ?_; go_size))))⟩)
      | (exfalso; omega)
  obtain ⟨n, rfl⟩ : ∃ n : Nat, a0 = n := ⟨a0.toNat, by omega⟩
  have n1 : 1 ≤ n := by omega
  have n2 : n ≤ 6 := by omega
  have d1 : decide ((n : Int) < 1) = false := decide_eq_false (by omega)
  have d2 : decide ((6 : Int) < n) = false := decide_eq_false (by omega)
  have d3 : decide ((150 : Int) < xs.length) = false := decide_eq_false (by omega)
  have hx150 : xs.length ≤ 150 := by omega
  have hmk : ∀ w, (Instr.makeSlice 28 (.int .i64 (1 + 6 * (n : Int))) (.int .i64 (1 + 6 * (n : Int)))).run Try.prog w = .ok (.slice (some ⟨w.heap.size, 0, none⟩) (1 + 6 * n) (1 + 6 * n)) (w.alloc (.cells (u64s (List.replicate (1 + 6 * n) 0)).toArray 22)) := fun w => by
    have := make_u64 (1 + 6 * n) (by omega) w
    simpa using this
  have mp := make_prog n (by omega)
  have mb := make_bool n (by omega)
  obtain ⟨RZ, hRZ, mr⟩ := make_run n (by omega)
  generalize hZ : u64s (List.replicate (1 + 6 * n) 0) = Z at hmk
  generalize hZP : (List.replicate n Value.nilIface).toArray = ZP at mp
  generalize hZB : (List.replicate n (Value.bool false)).toArray = ZB at mb
  have HZ := Lib.hid hZ
  have HZP := Lib.hid hZP
  have HZB := Lib.hid hZB
  clear hbad h0 hZ hZP hZB
  go_enter Try.func4, Try.ntmps4
  go_wp2_with fail
  refine (qnew_ok 1 n _ (by omega) (by omega) (by omega) (by omega)).mono ?_
  rintro e w1 ⟨rfl, rfl⟩
  go_wp2_with fail
  refine (made_ok (some ⟨W.heap.size + 1, 0, none⟩) (List.replicate (1 + 6 * n) 0) (1 + 6 * n) (1 + 6 * n) _ ?_ (by simp) (by omega) (by omega) (by omega) (fun x hx => by rw [List.eq_of_mem_replicate hx]; omega)).mono ?_
  · have hT := Blk.new (W.alloc (.cells #[.int .i64 1, .int .i64 n] 62)) 22 Z
    rw [World.size_alloc] at hT
    rw [HZ.out]
    exact Rd.of_blk hT (List.prefix_refl _) (by simp)
  rintro e w1 ⟨b, g, rfl, hm, hb, hg, hB1⟩
  rw [List.length_replicate] at hm
  have hK : KO W w1 W.heap.size 1 n b g (1 + 6 * n) (List.replicate (1 + 6 * n) 0) (List.replicate n none) := ⟨⟨(Blk.new W 62 [.int .i64 1, .int .i64 n]).keep (Ch.of_below (show Below _ (W.alloc _) w1 from Below.trans (by (repeat' (first | (with_reducible exact Below.refl _ _) | (with_reducible assumption) | (with_reducible refine Below.alloc ?_ ?_ _) | (with_reducible refine Below.drew ?_) | (with_reducible refine below_drewN ?_ _) | (with_reducible refine Below.setCell ?_ ?_ _) | (with_reducible refine Below.trans ?_ (Below.mono (by assumption) ?_)) | (first | go_size | (with_reducible exact Below.size (by assumption)) | (with_reducible exact Nat.le_trans (Below.size (by assumption)) (Below.size (by assumption))) | (refine Nat.le_trans (Below.size (by assumption)) ?_; go_size))))) (hB1.mono (by simp))) (fun _ => False)) (fun e => e), by omega, by omega, by omega, by omega⟩, hm, fun p hp => (by have := List.eq_of_mem_replicate hp; cases this), fun i j p q hp => (by rw [List.getElem?_replicate] at hp; split at hp <;> cases hp), Below.trans (by (repeat' (first | (with_reducible exact Below.refl _ _) | (with_reducible assumption) | (with_reducible refine Below.alloc ?_ ?_ _) | (with_reducible refine Below.drew ?_) | (with_reducible refine below_drewN ?_ _) | (with_reducible refine Below.setCell ?_ ?_ _) | (with_reducible refine Below.trans ?_ (Below.mono (by assumption) ?_)) | (first | go_size | (with_reducible exact Below.size (by assumption)) | (with_reducible exact Nat.le_trans (Below.size (by assumption)) (Below.size (by assumption))) | (refine Nat.le_trans (Below.size (by assumption)) ?_; go_size))))) (hB1.mono (by simp; omega)), by simp at hg; omega, by simp at hb; omega, Nat.le_refl _⟩
  have hT := Blk.new (W.alloc (.cells #[.int .i64 1, .int .i64 n] 62)) 22 Z
  rw [World.size_alloc] at hT
  have hT1 := hT.keep (Ch.of_below hB1 (fun _ => False)) (fun e => e)
  have hgb : W.heap.size + 1 < g := by simp at hg; omega
  have hbb : W.heap.size + 1 < b := by simp at hb; omega
  clear hm hb hg hB1 hmk hT
  go_upto_region 9 with fail
  go_cut [10, 11, 12] (fun s10 s11 s12 wx => ∃ pb rb hb, s10 = .slice (some ⟨pb, 0, none⟩) n n ∧ s11 = .slice (some ⟨rb, 0, none⟩) n n ∧ s12 = .slice (some ⟨hb, 0, none⟩) n n ∧ Blk wx pb 33 ZP.toList ∧ Blk wx rb 46 RZ ∧ Blk wx hb 4 ZB.toList ∧ Blk wx w1.heap.size 41 [.int .i64 1, .int .i64 n] ∧ Below w1.heap.size w1 wx ∧ w1.heap.size ≤ pb ∧ w1.heap.size ≤ rb ∧ w1.heap.size ≤ hb)
  case first =>
    go_region
    all_goals
      go_wp2_with fail
      go_meet
      refine ⟨_, _, _, rfl, rfl, rfl, ?_, ?_, ?_, at0 _ _ _ _ _ _ _ rfl, by (repeat' (first | (with_reducible exact Below.refl _ _) | (with_reducible assumption) | (with_reducible refine Below.alloc ?_ ?_ _) | (with_reducible refine Below.drew ?_) | (with_reducible refine below_drewN ?_ _) | (with_reducible refine Below.setCell ?_ ?_ _) | (with_reducible refine Below.trans ?_ (Below.mono (by assumption) ?_)) | (first | go_size | (with_reducible exact Below.size (by assumption)) | (with_reducible exact Nat.le_trans (Below.size (by assumption)) (Below.size (by assumption))) | (refine Nat.le_trans (Below.size (by assumption)) ?_; go_size)))), ?_, ?_, ?_⟩
      all_goals first | (go_size; done) | exact at1 _ _ _ _ _ _ _ rfl | exact at2 _ _ _ _ _ _ _ rfl | exact at3 _ _ _ _ _ _ _ rfl
  case rest =>
    obtain ⟨pb, rb, hb, rfl, rfl, rfl, hPB, hRB, hHB, hVB, hBx, hpw, hrw, hhw⟩ := hcut
    have hzK := hK.below.size
    obtain ⟨sp, hrow⟩ := hK.mem.row
    have hg1 := hrow.lt
    have hT2 := hT1.keep (Ch.of_below hBx (fun _ => False)) (fun e => e)
    have hS : PX W wc W.heap.size b g pb rb hb w1.heap.size n (some ⟨W.heap.size + 1, 0, none⟩) (1 + 6 * n) (List.replicate n none) ((List.replicate n none).map progV) ((List.replicate n false).map Value.bool) (List.replicate (1 + 6 * n) 0) (fun _ => True) := by
      refine ⟨hK.step hBx, ?_, ?_, ⟨RZ, hRB, hRZ⟩, hVB, fun s r bk x _ hp => ?_, ?_, by simp, ⟨Nat.le_refl _, by omega, fun e => by cases e⟩, by simp, by omega, by omega, by omega⟩
      · rw [List.map_replicate]; rw [← HZP.out] at hPB; exact hPB
      · rw [List.map_replicate]; rw [← HZB.out] at hHB; exact hHB
      · rw [List.getElem?_replicate] at hp; split at hp <;> cases hp
      · rw [HZ.out]
        have hlt := hT1.lt
        exact (Rd.of_blk (G := fun q => q = W.heap.size + 1) hT2 (List.prefix_refl _) rfl).mono (fun q _ e => ⟨by omega, by omega, by omega, by omega, by omega, fun p hp => by have := List.eq_of_mem_replicate hp; cases this⟩)
    clear hK hPB hRB hHB hVB hBx hpw hrw hhw hzK hrow hg1 hT1 hT2 hgb hbb mp mb mr HZ HZP HZB hRZ
    generalize w1.heap.size = vb at *
    go_wp2_with fail
    go_loopg [7, 69] (xs.length) (fun gk v7 v69 wr => ∃ (k : Nat) (A7 : Option Addr) (c7 : Nat) (pl : List (Option (Nat × Bool × Rn))) (hl : List Bool) (ws : List Int), gk = xs.length - k ∧ v69 = .int .i64 k ∧ k ≤ xs.length ∧ v7 = .slice A7 (1 + 6 * n) c7 ∧ hl.length = n ∧ PX W wr W.heap.size b g pb rb hb vb n A7 c7 pl (pl.map progV) (hl.map Value.bool) ws (fun _ => True))
    case atStart => exact ⟨0, _, _, _, _, _, rfl, rfl, Nat.zero_le _, rfl, List.length_replicate, hS⟩
    case round =>
      clear hS
      obtain ⟨k, A7, c7, pl, hl, ws, rfl, rfl, hk, rfl, hlh, hS⟩ := hrel
      by_cases hlt : k < xs.length
      · obtain ⟨bA, oA, rfl, hbA, hcx⟩ := (hr.keep (Ch.of_below hS.ko.below (fun _ => False)) (fun _ _ _ e => e)).at (j := k) (by simpa using hlt)
        rw [List.getElem_map] at hcx
        have hXb := wf_u8 (hwf _ (List.getElem_mem hlt))
        generalize xs[k] = X at hcx hXb
        obtain ⟨t, ht⟩ : ∃ t : Nat, X % (n : Int) = t := ⟨(X % (n : Int)).toNat, by have := Int.emod_nonneg X (b := (n : Int)) (by omega); omega⟩
        have htn : t < n := by have := Int.emod_lt_of_pos X (b := (n : Int)) (by omega); omega
        have i1 : (0 : Int) ≤ k := Int.natCast_nonneg _
        have i2 : (k : Int) < xs.length := by omega
        have i3 : (k : Int) < c := by omega
        have i4 : (0 : Int) ≤ t := Int.natCast_nonneg _
        have i5 : (t : Int) < n := by omega
        obtain ⟨p, hp⟩ : ∃ p, pl[t]? = some p := ⟨_, List.getElem?_eq_getElem (by rw [hS.lp]; exact htn)⟩
        obtain ⟨hh, hhe⟩ : ∃ y, hl[t]? = some y := ⟨_, List.getElem?_eq_getElem (by rw [hlh]; exact htn)⟩
        have cp : wr.cell? ⟨pb, t, none⟩ = some (progV p) := by rw [hS.fp.cell, List.getElem?_map, hp]; rfl
        have ch : wr.cell? ⟨hb, t, none⟩ = some (.bool hh) := by rw [hS.fh.cell, List.getElem?_map, hhe]; rfl
        have HP := Lib.hid hp
        have HH := Lib.hid hhe
        clear hp hhe
        have gn := guard_nil p
        have en := eq_nil p
        go_upto_if 82 with fail
        go_cut [15, 16, 17, 18, 19] (fun s15 s16 s17 s18 s19 wx => s15 = .int .i64 t ∧ ∃ (pl2 : List (Option (Nat × Bool × Rn))) (hl2 : List Bool) (r : Nat) (bb : Bool) (x : Rn), hl2.length = n ∧ PX W wx W.heap.size b g pb rb hb vb n A7 c7 pl2 (pl2.map progV) (hl2.map Value.bool) ws (fun _ => True) ∧ pl2[t]? = some (some (r, bb, x)))
        case first =>
          clear gn en
          rcases p with _ | ⟨r, bb, x⟩
          · rw [show progV none = .nilIface from rfl] at cp
            go_wp2_with fail
            refine (begin_ok W.heap.size 1 n 0 (2 * (t : Int)) hh _ hS.ko.nd (by unfold okRun; omega)).mono ?_
            rintro e w2 ⟨r, rfl, hrw, hR, hB⟩
            have hS2 := hS.begin t hB hR hrw (pcOk_new hh 0 (2 * (t : Int))) (show (0 : Int) ≤ 2 * (t : Int) ∧ 2 * (t : Int) < (n : Int) * 2 by omega) (by show (0 : Int) ≤ 0 ∧ (0 : Int) ≤ 18446744073709551615; omega)
            have ch2 : w2.cell? ⟨hb, t, none⟩ = some (.bool hh) := by rw [hS2.fh.cell, List.getElem?_map, HH.out]; rfl
            have cv0 := hS2.fv.cell 0
            have cv1 := hS2.fv.cell 1
            simp only [List.getElem?_cons_zero, List.getElem?_cons_succ] at cv0 cv1
            have lv := hS2.fv.lt
            have lh := hS2.fh.lt
            clear hS hR hB cp ch hcx
            have sw : IntKind.i64.wrap (2 * (t : Int)) = 2 * t := IntWalk.i64_in _ (by omega)
            go_upto_region 16 with fail
            go_cut [18, 19] (fun s18 s19 wx => ∃ kk : Nat, s18 = .pointer (some ⟨kk, 0, none⟩) ∧ s19 = .int .i64 0 ∧ wx.rangeAt kk 0 (rc8 1 n hh ⟨0, 2 * (t : Int), 1, 0, false⟩) ∧ Below w2.heap.size w2 wx ∧ w2.heap.size ≤ kk)
            case first =>
              refine wp_region_held_drew (S := (fun w' => Below w2.heap.size w2 w')) (by kernel_rfl) ?hsa (fun hHeld => ?hra)
              case hsa => exact (Below.refl _ _).drew
              case hra =>
                have hHB := hHeld
                clear hHeld
                refine take_yes (i := 0) (v := ?va1) rfl (by kernel_rfl) (by kernel_rfl) (by kernel_rfl) (fun _ _ _ h => h) (by rfl) ?ya1 hHB ?ra1
                case ya1 => (intro w hSw; have hSw : Below w2.heap.size w2 w := hSw; have y1 := (Below.cell hSw (p := ⟨hb, t, none⟩) lh).trans ch2; have y2 := (Below.cell hSw (p := ⟨vb, 0, none⟩) lv).trans cv0; have y3 := (Below.cell hSw (p := ⟨vb, 1, none⟩) lv).trans cv1; go_simp; (try with_reducible rfl))
                case ra1 =>
                  try simp only [Act.put, List.setIfInBounds_toArray, List.set_cons_zero, List.set_cons_succ]
                  refine take_yes (i := 1) (v := ?va2) rfl (by kernel_rfl) (by kernel_rfl) (by kernel_rfl) (fun _ _ _ h => h) (by rfl) ?ya2 hHB ?ra2
                  case ya2 => (intro w hSw; have hSw : Below w2.heap.size w2 w := hSw; have y1 := (Below.cell hSw (p := ⟨hb, t, none⟩) lh).trans ch2; have y2 := (Below.cell hSw (p := ⟨vb, 0, none⟩) lv).trans cv0; have y3 := (Below.cell hSw (p := ⟨vb, 1, none⟩) lv).trans cv1; go_simp; (try with_reducible rfl))
                  case ra2 =>
                    try simp only [Act.put, List.setIfInBounds_toArray, List.set_cons_zero, List.set_cons_succ]
                    refine take_yes (i := 2) (v := ?va3) rfl (by kernel_rfl) (by kernel_rfl) (by kernel_rfl) (fun _ _ _ h => h) (by rfl) ?ya3 hHB ?ra3
                    case ya3 => (intro w hSw; have hSw : Below w2.heap.size w2 w := hSw; have y1 := (Below.cell hSw (p := ⟨hb, t, none⟩) lh).trans ch2; have y2 := (Below.cell hSw (p := ⟨vb, 0, none⟩) lv).trans cv0; have y3 := (Below.cell hSw (p := ⟨vb, 1, none⟩) lv).trans cv1; go_simp; (try with_reducible rfl))
                    case ra3 =>
                      try simp only [Act.put, List.setIfInBounds_toArray, List.set_cons_zero, List.set_cons_succ]
                      refine take_yes (i := 3) (v := ?va4) rfl (by kernel_rfl) (by kernel_rfl) (by kernel_rfl) (fun _ _ _ h => h) (by rfl) ?ya4 hHB ?ra4
                      case ya4 => (intro w hSw; have hSw : Below w2.heap.size w2 w := hSw; have y1 := (Below.cell hSw (p := ⟨hb, t, none⟩) lh).trans ch2; have y2 := (Below.cell hSw (p := ⟨vb, 0, none⟩) lv).trans cv0; have y3 := (Below.cell hSw (p := ⟨vb, 1, none⟩) lv).trans cv1; go_simp; (try with_reducible rfl))
                      case ra4 =>
                        try simp only [Act.put, List.setIfInBounds_toArray, List.set_cons_zero, List.set_cons_succ]
                        refine take_yes (i := 4) (v := ?va5) rfl (by kernel_rfl) (by kernel_rfl) (by kernel_rfl) (fun _ _ _ h => h) (by rfl) ?ya5 hHB ?ra5
                        case ya5 => (intro w hSw; have hSw : Below w2.heap.size w2 w := hSw; have y1 := (Below.cell hSw (p := ⟨hb, t, none⟩) lh).trans ch2; have y2 := (Below.cell hSw (p := ⟨vb, 0, none⟩) lv).trans cv0; have y3 := (Below.cell hSw (p := ⟨vb, 1, none⟩) lv).trans cv1; go_simp; (try with_reducible rfl))
                        case ra5 =>
                          try simp only [Act.put, List.setIfInBounds_toArray, List.set_cons_zero, List.set_cons_succ]
                          refine take_yes (i := 5) (v := ?va6) rfl (by kernel_rfl) (by kernel_rfl) (by kernel_rfl) (fun _ _ _ h => h) (by rfl) ?ya6 hHB ?ra6
                          case ya6 => (intro w hSw; have hSw : Below w2.heap.size w2 w := hSw; have y1 := (Below.cell hSw (p := ⟨hb, t, none⟩) lh).trans ch2; have y2 := (Below.cell hSw (p := ⟨vb, 0, none⟩) lv).trans cv0; have y3 := (Below.cell hSw (p := ⟨vb, 1, none⟩) lv).trans cv1; go_simp; (try with_reducible rfl))
                          case ra6 =>
                            try simp only [Act.put, List.setIfInBounds_toArray, List.set_cons_zero, List.set_cons_succ]
                            refine take_yes (i := 6) (v := ?va7) rfl (by kernel_rfl) (by kernel_rfl) (by kernel_rfl) (fun _ _ _ h => h) (by rfl) ?ya7 hHB ?ra7
                            case ya7 => (intro w hSw; have hSw : Below w2.heap.size w2 w := hSw; have y1 := (Below.cell hSw (p := ⟨hb, t, none⟩) lh).trans ch2; have y2 := (Below.cell hSw (p := ⟨vb, 0, none⟩) lv).trans cv0; have y3 := (Below.cell hSw (p := ⟨vb, 1, none⟩) lv).trans cv1; go_simp; (try with_reducible rfl))
                            case ra7 =>
                              try simp only [Act.put, List.setIfInBounds_toArray, List.set_cons_zero, List.set_cons_succ]
                              refine wpAnyH_ready (rs := [7, 11]) (by kernel_rfl) (by simp) ?ba8
                              case ba8 =>
                                refine cons_l rfl (fun K hK => ?sa9) ?ma9
                                case sa9 =>
                                  go_simp
                                  with_reducible refine (rnew_ok 1 n 0 (2 * (t : Int)) hh _ (by omega) (by omega) (by omega) (by omega) (by unfold okRun; omega)).mono ?_
                                  rintro e w3 ⟨rfl, hB3⟩
                                  go_wp2_with fail
                                  refine hK.out _ _ (hHB.trans (hB3.mono hHB.size)) (fun hHeld => ?na9)
                                  case na9 =>
                                    clear hK K hHB
                                    have hHB := hHeld
                                    try simp only [Act.put, List.setIfInBounds_toArray, List.set_cons_zero, List.set_cons_succ]
                                    refine take_yes (i := 8) (v := ?va10) rfl (by kernel_rfl) (by kernel_rfl) (by kernel_rfl) (fun _ _ _ h => h) (by rfl) ?ya10 hHB ?ra10
                                    case ya10 => (intro w hSw; have hSw : Below w2.heap.size w2 w := hSw; have y1 := (Below.cell hSw (p := ⟨hb, t, none⟩) lh).trans ch2; have y2 := (Below.cell hSw (p := ⟨vb, 0, none⟩) lv).trans cv0; have y3 := (Below.cell hSw (p := ⟨vb, 1, none⟩) lv).trans cv1; go_simp; (try with_reducible rfl))
                                    case ra10 =>
                                      try simp only [Act.put, List.setIfInBounds_toArray, List.set_cons_zero, List.set_cons_succ]
                                      refine take_yes (i := 9) (v := ?va11) rfl (by kernel_rfl) (by kernel_rfl) (by kernel_rfl) (fun _ _ _ h => h) (by rfl) ?ya11 hHB ?ra11
                                      case ya11 => (intro w hSw; have hSw : Below w2.heap.size w2 w := hSw; have y1 := (Below.cell hSw (p := ⟨hb, t, none⟩) lh).trans ch2; have y2 := (Below.cell hSw (p := ⟨vb, 0, none⟩) lv).trans cv0; have y3 := (Below.cell hSw (p := ⟨vb, 1, none⟩) lv).trans cv1; go_simp; (try with_reducible rfl))
                                      case ra11 =>
                                        try simp only [Act.put, List.setIfInBounds_toArray, List.set_cons_zero, List.set_cons_succ]
                                        refine take_yes (i := 10) (v := ?va12) rfl (by kernel_rfl) (by kernel_rfl) (by kernel_rfl) (fun _ _ _ h => h) (by rfl) ?ya12 hHB ?ra12
                                        case ya12 => (intro w hSw; have hSw : Below w2.heap.size w2 w := hSw; have y1 := (Below.cell hSw (p := ⟨hb, t, none⟩) lh).trans ch2; have y2 := (Below.cell hSw (p := ⟨vb, 0, none⟩) lv).trans cv0; have y3 := (Below.cell hSw (p := ⟨vb, 1, none⟩) lv).trans cv1; go_simp; (try with_reducible rfl))
                                        case ra12 =>
                                          try simp only [Act.put, List.setIfInBounds_toArray, List.set_cons_zero, List.set_cons_succ]
                                          refine wpAnyH_ready (rs := [11]) (by kernel_rfl) (by simp) ?ba13
                                          case ba13 =>
                                            refine cons_l rfl (fun K hK => ?sa14) ?ma14
                                            case sa14 =>
                                              go_simp
                                              have hz : Blk ((w3).alloc (.cells z8.toArray 46)) w3.heap.size 46 z8 := Blk.new _ _ _
                                              have hk1 : w2.heap.size ≤ w3.heap.size := hHB.size
                                              refine hK.out _ _ (hHB.alloc hHB.size _) (fun hHeld => ?na14)
                                              case na14 =>
                                                clear hK K hHB
                                                have hHB := hHeld
                                                try simp only [Act.put, List.setIfInBounds_toArray, List.set_cons_zero, List.set_cons_succ]
                                                refine wpAnyH_ready (rs := [12]) (by kernel_rfl) (by simp) ?ba15
                                                case ba15 =>
                                                  refine cons_l rfl (fun K hK => ?sa16) ?ma16
                                                  case sa16 =>
                                                    have hrun := run_here hz rfl n hh ⟨0, 2 * (t : Int), 1, 0, false⟩
                                                    rw [if_pos (by rfl)]
                                                    refine wp_store_mid _ _ _ rfl w3.heap.size 0 (rc8 1 n hh ⟨0, 2 * (t : Int), 1, 0, false⟩).toArray rfl rfl hrun.1 (by kernel_rfl) (rc8_one _ _ _) ?_
                                                    refine hK.out _ _ (hHB.trans (hrun.2.2.below (fun j _ e => by omega) hHB.size)) (fun hHeld => ?na16)
                                                    case na16 =>
                                                      clear hK K hHB
                                                      have hHB := hHeld
                                                      try simp only [Act.put]
                                                      refine take_yes (i := 13) (v := ?va17) rfl (by kernel_rfl) (by kernel_rfl) (by kernel_rfl) (fun _ _ _ h => h) (by rfl) ?ya17 hHB ?ra17
                                                      case ya17 => (intro w hSw; have hSw : Below w2.heap.size w2 w := hSw; have y1 := (Below.cell hSw (p := ⟨hb, t, none⟩) lh).trans ch2; have y2 := (Below.cell hSw (p := ⟨vb, 0, none⟩) lv).trans cv0; have y3 := (Below.cell hSw (p := ⟨vb, 1, none⟩) lv).trans cv1; go_simp; (try with_reducible rfl))
                                                      case ra17 =>
                                                        try simp only [Act.put, List.setIfInBounds_toArray, List.set_cons_zero, List.set_cons_succ]
                                                        refine wpAnyH_done (by kernel_rfl) ?_ _
                                                        go_wp2_with fail
                                                        go_meet
                                                        exact ⟨_, rfl, rfl, hrun.2.1, hHB, hk1⟩
                                                  case ma16 =>
                                                    exact AllReadyH.nil
                                            case ma14 =>
                                              exact AllReadyH.nil
                                case ma9 =>
                                  refine cons_l rfl (fun K hK => ?sa18) ?ma18
                                  case sa18 =>
                                    go_simp
                                    have hz : Blk ((w2.drew).alloc (.cells z8.toArray 46)) w2.heap.size 46 z8 := Blk.new _ _ _
                                    have hk1 : w2.heap.size ≤ w2.heap.size := hHB.size
                                    refine hK.out _ _ (hHB.alloc hHB.size _) (fun hHeld => ?na18)
                                    case na18 =>
                                      clear hK K hHB
                                      have hHB := hHeld
                                      try simp only [Act.put, List.setIfInBounds_toArray, List.set_cons_zero, List.set_cons_succ]
                                      refine wpAnyH_ready (rs := [7]) (by kernel_rfl) (by simp) ?ba19
                                      case ba19 =>
                                        refine cons_l rfl (fun K hK => ?sa20) ?ma20
                                        case sa20 =>
                                          go_simp
                                          with_reducible refine (rnew_ok 1 n 0 (2 * (t : Int)) hh _ (by omega) (by omega) (by omega) (by omega) (by unfold okRun; omega)).mono ?_
                                          rintro e w3 ⟨rfl, hB3⟩
                                          go_wp2_with fail
                                          have hz := hz.keep (Ch.of_below hB3 (fun _ => False)) (fun e => e)
                                          refine hK.out _ _ (hHB.trans (hB3.mono hHB.size)) (fun hHeld => ?na20)
                                          case na20 =>
                                            clear hK K hHB
                                            have hHB := hHeld
                                            try simp only [Act.put, List.setIfInBounds_toArray, List.set_cons_zero, List.set_cons_succ]
                                            refine take_yes (i := 8) (v := ?va21) rfl (by kernel_rfl) (by kernel_rfl) (by kernel_rfl) (fun _ _ _ h => h) (by rfl) ?ya21 hHB ?ra21
                                            case ya21 => (intro w hSw; have hSw : Below w2.heap.size w2 w := hSw; have y1 := (Below.cell hSw (p := ⟨hb, t, none⟩) lh).trans ch2; have y2 := (Below.cell hSw (p := ⟨vb, 0, none⟩) lv).trans cv0; have y3 := (Below.cell hSw (p := ⟨vb, 1, none⟩) lv).trans cv1; go_simp; (try with_reducible rfl))
                                            case ra21 =>
                                              try simp only [Act.put, List.setIfInBounds_toArray, List.set_cons_zero, List.set_cons_succ]
                                              refine take_yes (i := 9) (v := ?va22) rfl (by kernel_rfl) (by kernel_rfl) (by kernel_rfl) (fun _ _ _ h => h) (by rfl) ?ya22 hHB ?ra22
                                              case ya22 => (intro w hSw; have hSw : Below w2.heap.size w2 w := hSw; have y1 := (Below.cell hSw (p := ⟨hb, t, none⟩) lh).trans ch2; have y2 := (Below.cell hSw (p := ⟨vb, 0, none⟩) lv).trans cv0; have y3 := (Below.cell hSw (p := ⟨vb, 1, none⟩) lv).trans cv1; go_simp; (try with_reducible rfl))
                                              case ra22 =>
                                                try simp only [Act.put, List.setIfInBounds_toArray, List.set_cons_zero, List.set_cons_succ]
                                                refine take_yes (i := 10) (v := ?va23) rfl (by kernel_rfl) (by kernel_rfl) (by kernel_rfl) (fun _ _ _ h => h) (by rfl) ?ya23 hHB ?ra23
                                                case ya23 => (intro w hSw; have hSw : Below w2.heap.size w2 w := hSw; have y1 := (Below.cell hSw (p := ⟨hb, t, none⟩) lh).trans ch2; have y2 := (Below.cell hSw (p := ⟨vb, 0, none⟩) lv).trans cv0; have y3 := (Below.cell hSw (p := ⟨vb, 1, none⟩) lv).trans cv1; go_simp; (try with_reducible rfl))
                                                case ra23 =>
                                                  try simp only [Act.put, List.setIfInBounds_toArray, List.set_cons_zero, List.set_cons_succ]
                                                  refine wpAnyH_ready (rs := [12]) (by kernel_rfl) (by simp) ?ba24
                                                  case ba24 =>
                                                    refine cons_l rfl (fun K hK => ?sa25) ?ma25
                                                    case sa25 =>
                                                      have hrun := run_here hz rfl n hh ⟨0, 2 * (t : Int), 1, 0, false⟩
                                                      rw [if_pos (by rfl)]
                                                      refine wp_store_mid _ _ _ rfl w2.heap.size 0 (rc8 1 n hh ⟨0, 2 * (t : Int), 1, 0, false⟩).toArray rfl rfl hrun.1 (by kernel_rfl) (rc8_one _ _ _) ?_
                                                      refine hK.out _ _ (hHB.trans (hrun.2.2.below (fun j _ e => by omega) hHB.size)) (fun hHeld => ?na25)
                                                      case na25 =>
                                                        clear hK K hHB
                                                        have hHB := hHeld
                                                        try simp only [Act.put]
                                                        refine take_yes (i := 13) (v := ?va26) rfl (by kernel_rfl) (by kernel_rfl) (by kernel_rfl) (fun _ _ _ h => h) (by rfl) ?ya26 hHB ?ra26
                                                        case ya26 => (intro w hSw; have hSw : Below w2.heap.size w2 w := hSw; have y1 := (Below.cell hSw (p := ⟨hb, t, none⟩) lh).trans ch2; have y2 := (Below.cell hSw (p := ⟨vb, 0, none⟩) lv).trans cv0; have y3 := (Below.cell hSw (p := ⟨vb, 1, none⟩) lv).trans cv1; go_simp; (try with_reducible rfl))
                                                        case ra26 =>
                                                          try simp only [Act.put, List.setIfInBounds_toArray, List.set_cons_zero, List.set_cons_succ]
                                                          refine wpAnyH_done (by kernel_rfl) ?_ _
                                                          go_wp2_with fail
                                                          go_meet
                                                          exact ⟨_, rfl, rfl, hrun.2.1, hHB, hk1⟩
                                                    case ma25 =>
                                                      exact AllReadyH.nil
                                        case ma20 =>
                                          exact AllReadyH.nil
                                  case ma18 =>
                                    exact AllReadyH.nil
            case rest =>
              obtain ⟨kk, rfl, rfl, hrk, hB16, hkk⟩ := hcut
              have hPX := hS2.step hB16
              have lp := hS2.fp.lt
              have lr := hS2.fr.choose_spec.1.lt
              have hne : pb ≠ hb := Blk.ne hS2.fp hS2.fh (by decide)
              have hne2 : pb ≠ rb := Blk.ne hS2.fp hS2.fr.choose_spec.1 (by decide)
              have hne3 : hb ≠ rb := Blk.ne hS2.fh hS2.fr.choose_spec.1 (by decide)
              have hgo : (pl.set t (some (r, hh, (⟨0, 2 * (t : Int), 1, 0, false⟩ : Rn))))[t]? = some (some (r, hh, ⟨0, 2 * (t : Int), 1, 0, false⟩)) := List.getElem?_set_self (by have := hS2.lp; rw [List.length_set] at this; omega)
              have ch3 := (Below.cell hB16 (p := ⟨hb, t, none⟩) lh).trans ch2
              clear hS2 hB16 ch2 cv0 cv1
              cases hh
              · rw [progI_A]
                go_upto_region 19 with fail
                have hPX := hPX.step (Below.refl _ _).drew
                have hrk := (World.rangeAt_drew _ _ _ _).2 hrk
                refine wp_region_held_drew (S := (fun _ => True)) (by kernel_rfl) ?hsbf (fun hHeld => ?hrbf)
                case hsbf => exact trivial
                case hrbf =>
                  have hHB := hHeld
                  clear hHeld
                  refine take_yes (i := 0) (v := ?vbf1) rfl (by kernel_rfl) (by kernel_rfl) (by kernel_rfl) (fun _ _ _ h => h) (by rfl) ?ybf1 hHB ?rbf1
                  case ybf1 => (intro w hSw; go_simp; (try with_reducible rfl))
                  case rbf1 =>
                    try simp only [Act.put, List.setIfInBounds_toArray, List.set_cons_zero, List.set_cons_succ]
                    refine take_yes (i := 1) (v := ?vbf2) rfl (by kernel_rfl) (by kernel_rfl) (by kernel_rfl) (fun _ _ _ h => h) (by rfl) ?ybf2 hHB ?rbf2
                    case ybf2 => (intro w hSw; go_simp; (try with_reducible rfl))
                    case rbf2 =>
                      try simp only [Act.put, List.setIfInBounds_toArray, List.set_cons_zero, List.set_cons_succ]
                      refine take_yes (i := 2) (v := ?vbf3) rfl (by kernel_rfl) (by kernel_rfl) (by kernel_rfl) (fun _ _ _ h => h) (by rfl) ?ybf3 hHB ?rbf3
                      case ybf3 => (intro w hSw; go_simp; (try with_reducible rfl))
                      case rbf3 =>
                        try simp only [Act.put, List.setIfInBounds_toArray, List.set_cons_zero, List.set_cons_succ]
                        refine take_yes (i := 3) (v := ?vbf4) rfl (by kernel_rfl) (by kernel_rfl) (by kernel_rfl) (fun _ _ _ h => h) (by rfl) ?ybf4 hHB ?rbf4
                        case ybf4 => (intro w hSw; go_simp; (try with_reducible rfl))
                        case rbf4 =>
                          try simp only [Act.put, List.setIfInBounds_toArray, List.set_cons_zero, List.set_cons_succ]
                          refine take_yes (i := 4) (v := ?vbf5) rfl (by kernel_rfl) (by kernel_rfl) (by kernel_rfl) (fun _ _ _ h => h) (by rfl) ?ybf5 hHB ?rbf5
                          case ybf5 => (intro w hSw; go_simp; (try with_reducible rfl))
                          case rbf5 =>
                            try simp only [Act.put, List.setIfInBounds_toArray, List.set_cons_zero, List.set_cons_succ]
                            refine take_yes (i := 5) (v := ?vbf6) rfl (by kernel_rfl) (by kernel_rfl) (by kernel_rfl) (fun _ _ _ h => h) (by rfl) ?ybf6 hHB ?rbf6
                            case ybf6 => (intro w hSw; go_simp; (try with_reducible rfl))
                            case rbf6 =>
                              try simp only [Act.put, List.setIfInBounds_toArray, List.set_cons_zero, List.set_cons_succ]
                              refine take_yes (i := 6) (v := ?vbf7) rfl (by kernel_rfl) (by kernel_rfl) (by kernel_rfl) (fun _ _ _ h => h) (by rfl) ?ybf7 hHB ?rbf7
                              case ybf7 => (intro w hSw; go_simp; (try with_reducible rfl))
                              case rbf7 =>
                                try simp only [Act.put, List.setIfInBounds_toArray, List.set_cons_zero, List.set_cons_succ]
                                refine take_yes (i := 8) (v := ?vbf8) rfl (by kernel_rfl) (by kernel_rfl) (by kernel_rfl) (fun _ _ _ h => h) (by rfl) ?ybf8 hHB ?rbf8
                                case ybf8 => (intro w hSw; go_simp; (try with_reducible rfl))
                                case rbf8 =>
                                  try simp only [Act.put, List.setIfInBounds_toArray, List.set_cons_zero, List.set_cons_succ]
                                  refine take_yes (i := 9) (v := ?vbf9) rfl (by kernel_rfl) (by kernel_rfl) (by kernel_rfl) (fun _ _ _ h => h) (by rfl) ?ybf9 hHB ?rbf9
                                  case ybf9 => (intro w hSw; go_simp; (try with_reducible rfl))
                                  case rbf9 =>
                                    try simp only [Act.put, List.setIfInBounds_toArray, List.set_cons_zero, List.set_cons_succ]
                                    refine take_yes (i := 10) (v := ?vbf10) rfl (by kernel_rfl) (by kernel_rfl) (by kernel_rfl) (fun _ _ _ h => h) (by rfl) ?ybf10 hHB ?rbf10
                                    case ybf10 => (intro w hSw; go_simp; (try with_reducible rfl))
                                    case rbf10 =>
                                      try simp only [Act.put, List.setIfInBounds_toArray, List.set_cons_zero, List.set_cons_succ]
                                      refine wpAnyH_ready (rs := [7, 11]) (by kernel_rfl) (by simp) ?bbf11
                                      case bbf11 =>
                                        refine cons_l rfl (fun K hK => ?sbf12) ?mbf12
                                        case sbf12 =>
                                          rw [if_pos (by rfl)]
                                          refine wp_load_mid _ _ rfl kk 0 rfl (rc8 1 n false ⟨0, 2 * (t : Int), 1, 0, false⟩) _ hrk Try.underlying46 rfl (by kernel_rfl) ?_
                                          refine hK.out _ _ trivial (fun hHeld => ?nbf12)
                                          case nbf12 =>
                                            clear hK K hHB
                                            have hHB := hHeld
                                            try simp only [Act.put, List.setIfInBounds_toArray, List.set_cons_zero, List.set_cons_succ]
                                            refine wpAnyH_ready (rs := [11]) (by kernel_rfl) (by simp) ?bbf13
                                            case bbf13 =>
                                              refine cons_l rfl (fun K hK => ?sbf14) ?mbf14
                                              case sbf14 =>
                                                go_simp
                                                refine hK.out _ _ trivial (fun hHeld => ?nbf14)
                                                case nbf14 =>
                                                  clear hK K hHB
                                                  have hHB := hHeld
                                                  try simp only [Act.put, List.setIfInBounds_toArray, List.set_cons_zero, List.set_cons_succ]
                                                  refine take_yes (i := 12) (v := ?vbf15) rfl (by kernel_rfl) (by kernel_rfl) (by kernel_rfl) (fun _ _ _ h => h) (by rfl) ?ybf15 hHB ?rbf15
                                                  case ybf15 => (intro w hSw; go_simp; (try with_reducible rfl))
                                                  case rbf15 =>
                                                    try simp only [Act.put, List.setIfInBounds_toArray, List.set_cons_zero, List.set_cons_succ]
                                                    refine take_yes (i := 13) (v := ?vbf16) rfl (by kernel_rfl) (by kernel_rfl) (by kernel_rfl) (fun _ _ _ h => h) (by rfl) ?ybf16 hHB ?rbf16
                                                    case ybf16 => (intro w hSw; go_simp; (try with_reducible rfl))
                                                    case rbf16 =>
                                                      try simp only [Act.put, List.setIfInBounds_toArray, List.set_cons_zero, List.set_cons_succ]
                                                      refine wpAnyH_ready (rs := [14]) (by kernel_rfl) (by simp) ?bbf17
                                                      case bbf17 =>
                                                        refine cons_l rfl (fun K hK => ?sbf18) ?mbf18
                                                        case sbf18 =>
                                                          have f1 := hPX.fp.frozen t
                                                          have f2 : (wc.drew).cell? ⟨pb, t, none⟩ = some .nilIface := by rw [hPX.fp.cell, List.getElem?_map, HP.out]; rfl
                                                          go_simp
                                                          have hrk := range_keep hrk ((Ch.refl (fun j => j = pb) _).setCell (p := ⟨pb, t, none⟩) (.inl rfl) (.iface 59 (.pointer (some ⟨r, 0, none⟩)))) (by omega)
                                                          have hPX := hPX.putP t (.iface 59 (.pointer (some ⟨r, 0, none⟩)))
                                                          refine hK.out _ _ trivial (fun hHeld => ?nbf18)
                                                          case nbf18 =>
                                                            clear hK K hHB
                                                            have hHB := hHeld
                                                            try simp only [Act.put]
                                                            refine take_yes (i := 15) (v := ?vbf19) rfl (by kernel_rfl) (by kernel_rfl) (by kernel_rfl) (fun _ _ _ h => h) (by rfl) ?ybf19 hHB ?rbf19
                                                            case ybf19 => (intro w hSw; go_simp; (try with_reducible rfl))
                                                            case rbf19 =>
                                                              try simp only [Act.put, List.setIfInBounds_toArray, List.set_cons_zero, List.set_cons_succ]
                                                              refine wpAnyH_ready (rs := [16]) (by kernel_rfl) (by simp) ?bbf20
                                                              case bbf20 =>
                                                                refine cons_l rfl (fun K hK => ?sbf21) ?mbf21
                                                                case sbf21 =>
                                                                  obtain ⟨cs, hcs, hcl⟩ := hPX.fr
                                                                  rw [if_pos (by rfl)]
                                                                  refine wp_store_mid _ _ _ rfl rb (t * 8) (rc8 1 n false ⟨0, 2 * (t : Int), 1, 0, false⟩).toArray rfl rfl (there_blk hcs (t * 8) 8 (by omega)) (by kernel_rfl) (rc8_one _ _ _) ?_
                                                                  have hPX := hPX.putR htn hgo (Eqv.refl _)
                                                                  refine hK.out _ _ trivial (fun hHeld => ?nbf21)
                                                                  case nbf21 =>
                                                                    clear hK K hHB
                                                                    have hHB := hHeld
                                                                    try simp only [Act.put]
                                                                    refine take_yes (i := 17) (v := ?vbf22) rfl (by kernel_rfl) (by kernel_rfl) (by kernel_rfl) (fun _ _ _ h => h) (by rfl) ?ybf22 hHB ?rbf22
                                                                    case ybf22 => (intro w hSw; go_simp; (try with_reducible rfl))
                                                                    case rbf22 =>
                                                                      try simp only [Act.put, List.setIfInBounds_toArray, List.set_cons_zero, List.set_cons_succ]
                                                                      refine wpAnyH_ready (rs := [18]) (by kernel_rfl) (by simp) ?bbf23
                                                                      case bbf23 =>
                                                                        refine cons_l rfl (fun K hK => ?sbf24) ?mbf24
                                                                        case sbf24 =>
                                                                          have f1 : (((((wc.setCell ⟨pb, t, none⟩ (.iface 59 (.pointer (some ⟨r, 0, none⟩)))).drew)).setCells rb (t * 8) (rc8 1 n false ⟨0, 2 * (t : Int), 1, 0, false⟩))).frozen? ⟨hb, t, none⟩ = false := hPX.fh.frozen t
                                                                          have f2 : (((((wc.setCell ⟨pb, t, none⟩ (.iface 59 (.pointer (some ⟨r, 0, none⟩)))).drew)).setCells rb (t * 8) (rc8 1 n false ⟨0, 2 * (t : Int), 1, 0, false⟩))).cell? ⟨hb, t, none⟩ = some (.bool false) := (hPX.fh.cell t).trans (by rw [List.getElem?_map, HH.out]; rfl)
                                                                          go_simp
                                                                          have hPX := hPX.putH t (.bool true)
                                                                          refine hK.out _ _ trivial (fun hHeld => ?nbf24)
                                                                          case nbf24 =>
                                                                            clear hK K hHB
                                                                            have hHB := hHeld
                                                                            try simp only [Act.put]
                                                                            refine wpAnyH_done (by kernel_rfl) ?_ _
                                                                            go_wp2_with fail
                                                                            go_meet
                                                                            refine ⟨by first | rfl | rw [ht], pl.set t (some (r, false, ⟨0, 2 * (t : Int), 1, 0, false⟩)), hl.set t true, r, false, ⟨0, 2 * (t : Int), 1, 0, false⟩, by rw [List.length_set]; exact hlh, ?_, hgo⟩
                                                                            rw [List.map_set, List.map_set]
                                                                            exact hPX
                                                                        case mbf24 =>
                                                                          exact AllReadyH.nil
                                                                case mbf21 =>
                                                                  exact AllReadyH.nil
                                                        case mbf18 =>
                                                          exact AllReadyH.nil
                                              case mbf14 =>
                                                exact AllReadyH.nil
                                        case mbf12 =>
                                          refine cons_l rfl (fun K hK => ?sbf25) ?mbf25
                                          case sbf25 =>
                                            go_simp
                                            refine hK.out _ _ trivial (fun hHeld => ?nbf25)
                                            case nbf25 =>
                                              clear hK K hHB
                                              have hHB := hHeld
                                              try simp only [Act.put, List.setIfInBounds_toArray, List.set_cons_zero, List.set_cons_succ]
                                              refine take_yes (i := 12) (v := ?vbf26) rfl (by kernel_rfl) (by kernel_rfl) (by kernel_rfl) (fun _ _ _ h => h) (by rfl) ?ybf26 hHB ?rbf26
                                              case ybf26 => (intro w hSw; go_simp; (try with_reducible rfl))
                                              case rbf26 =>
                                                try simp only [Act.put, List.setIfInBounds_toArray, List.set_cons_zero, List.set_cons_succ]
                                                refine take_yes (i := 13) (v := ?vbf27) rfl (by kernel_rfl) (by kernel_rfl) (by kernel_rfl) (fun _ _ _ h => h) (by rfl) ?ybf27 hHB ?rbf27
                                                case ybf27 => (intro w hSw; go_simp; (try with_reducible rfl))
                                                case rbf27 =>
                                                  try simp only [Act.put, List.setIfInBounds_toArray, List.set_cons_zero, List.set_cons_succ]
                                                  refine wpAnyH_ready (rs := [7, 14]) (by kernel_rfl) (by simp) ?bbf28
                                                  case bbf28 =>
                                                    refine cons_l rfl (fun K hK => ?sbf29) ?mbf29
                                                    case sbf29 =>
                                                      rw [if_pos (by rfl)]
                                                      refine wp_load_mid _ _ rfl kk 0 rfl (rc8 1 n false ⟨0, 2 * (t : Int), 1, 0, false⟩) _ hrk Try.underlying46 rfl (by kernel_rfl) ?_
                                                      refine hK.out _ _ trivial (fun hHeld => ?nbf29)
                                                      case nbf29 =>
                                                        clear hK K hHB
                                                        have hHB := hHeld
                                                        try simp only [Act.put, List.setIfInBounds_toArray, List.set_cons_zero, List.set_cons_succ]
                                                        refine wpAnyH_ready (rs := [14]) (by kernel_rfl) (by simp) ?bbf30
                                                        case bbf30 =>
                                                          refine cons_l rfl (fun K hK => ?sbf31) ?mbf31
                                                          case sbf31 =>
                                                            have f1 := hPX.fp.frozen t
                                                            have f2 : (wc.drew).cell? ⟨pb, t, none⟩ = some .nilIface := by rw [hPX.fp.cell, List.getElem?_map, HP.out]; rfl
                                                            go_simp
                                                            have hrk := range_keep hrk ((Ch.refl (fun j => j = pb) _).setCell (p := ⟨pb, t, none⟩) (.inl rfl) (.iface 59 (.pointer (some ⟨r, 0, none⟩)))) (by omega)
                                                            have hPX := hPX.putP t (.iface 59 (.pointer (some ⟨r, 0, none⟩)))
                                                            refine hK.out _ _ trivial (fun hHeld => ?nbf31)
                                                            case nbf31 =>
                                                              clear hK K hHB
                                                              have hHB := hHeld
                                                              try simp only [Act.put]
                                                              refine take_yes (i := 15) (v := ?vbf32) rfl (by kernel_rfl) (by kernel_rfl) (by kernel_rfl) (fun _ _ _ h => h) (by rfl) ?ybf32 hHB ?rbf32
                                                              case ybf32 => (intro w hSw; go_simp; (try with_reducible rfl))
                                                              case rbf32 =>
                                                                try simp only [Act.put, List.setIfInBounds_toArray, List.set_cons_zero, List.set_cons_succ]
                                                                refine wpAnyH_ready (rs := [16]) (by kernel_rfl) (by simp) ?bbf33
                                                                case bbf33 =>
                                                                  refine cons_l rfl (fun K hK => ?sbf34) ?mbf34
                                                                  case sbf34 =>
                                                                    obtain ⟨cs, hcs, hcl⟩ := hPX.fr
                                                                    rw [if_pos (by rfl)]
                                                                    refine wp_store_mid _ _ _ rfl rb (t * 8) (rc8 1 n false ⟨0, 2 * (t : Int), 1, 0, false⟩).toArray rfl rfl (there_blk hcs (t * 8) 8 (by omega)) (by kernel_rfl) (rc8_one _ _ _) ?_
                                                                    have hPX := hPX.putR htn hgo (Eqv.refl _)
                                                                    refine hK.out _ _ trivial (fun hHeld => ?nbf34)
                                                                    case nbf34 =>
                                                                      clear hK K hHB
                                                                      have hHB := hHeld
                                                                      try simp only [Act.put]
                                                                      refine take_yes (i := 17) (v := ?vbf35) rfl (by kernel_rfl) (by kernel_rfl) (by kernel_rfl) (fun _ _ _ h => h) (by rfl) ?ybf35 hHB ?rbf35
                                                                      case ybf35 => (intro w hSw; go_simp; (try with_reducible rfl))
                                                                      case rbf35 =>
                                                                        try simp only [Act.put, List.setIfInBounds_toArray, List.set_cons_zero, List.set_cons_succ]
                                                                        refine wpAnyH_ready (rs := [18]) (by kernel_rfl) (by simp) ?bbf36
                                                                        case bbf36 =>
                                                                          refine cons_l rfl (fun K hK => ?sbf37) ?mbf37
                                                                          case sbf37 =>
                                                                            have f1 : (((((wc.setCell ⟨pb, t, none⟩ (.iface 59 (.pointer (some ⟨r, 0, none⟩)))).drew)).setCells rb (t * 8) (rc8 1 n false ⟨0, 2 * (t : Int), 1, 0, false⟩))).frozen? ⟨hb, t, none⟩ = false := hPX.fh.frozen t
                                                                            have f2 : (((((wc.setCell ⟨pb, t, none⟩ (.iface 59 (.pointer (some ⟨r, 0, none⟩)))).drew)).setCells rb (t * 8) (rc8 1 n false ⟨0, 2 * (t : Int), 1, 0, false⟩))).cell? ⟨hb, t, none⟩ = some (.bool false) := (hPX.fh.cell t).trans (by rw [List.getElem?_map, HH.out]; rfl)
                                                                            go_simp
                                                                            have hPX := hPX.putH t (.bool true)
                                                                            refine hK.out _ _ trivial (fun hHeld => ?nbf37)
                                                                            case nbf37 =>
                                                                              clear hK K hHB
                                                                              have hHB := hHeld
                                                                              try simp only [Act.put]
                                                                              refine wpAnyH_done (by kernel_rfl) ?_ _
                                                                              go_wp2_with fail
                                                                              go_meet
                                                                              refine ⟨by first | rfl | rw [ht], pl.set t (some (r, false, ⟨0, 2 * (t : Int), 1, 0, false⟩)), hl.set t true, r, false, ⟨0, 2 * (t : Int), 1, 0, false⟩, by rw [List.length_set]; exact hlh, ?_, hgo⟩
                                                                              rw [List.map_set, List.map_set]
                                                                              exact hPX
                                                                          case mbf37 =>
                                                                            exact AllReadyH.nil
                                                                  case mbf34 =>
                                                                    exact AllReadyH.nil
                                                          case mbf31 =>
                                                            exact AllReadyH.nil
                                                    case mbf29 =>
                                                      refine cons_l rfl (fun K hK => ?sbf38) ?mbf38
                                                      case sbf38 =>
                                                        have f1 := hPX.fp.frozen t
                                                        have f2 : (wc.drew).cell? ⟨pb, t, none⟩ = some .nilIface := by rw [hPX.fp.cell, List.getElem?_map, HP.out]; rfl
                                                        go_simp
                                                        have hrk := range_keep hrk ((Ch.refl (fun j => j = pb) _).setCell (p := ⟨pb, t, none⟩) (.inl rfl) (.iface 59 (.pointer (some ⟨r, 0, none⟩)))) (by omega)
                                                        have hPX := hPX.putP t (.iface 59 (.pointer (some ⟨r, 0, none⟩)))
                                                        refine hK.out _ _ trivial (fun hHeld => ?nbf38)
                                                        case nbf38 =>
                                                          clear hK K hHB
                                                          have hHB := hHeld
                                                          try simp only [Act.put]
                                                          refine wpAnyH_ready (rs := [7]) (by kernel_rfl) (by simp) ?bbf39
                                                          case bbf39 =>
                                                            refine cons_l rfl (fun K hK => ?sbf40) ?mbf40
                                                            case sbf40 =>
                                                              rw [if_pos (by rfl)]
                                                              refine wp_load_mid _ _ rfl kk 0 rfl (rc8 1 n false ⟨0, 2 * (t : Int), 1, 0, false⟩) _ hrk Try.underlying46 rfl (by kernel_rfl) ?_
                                                              refine hK.out _ _ trivial (fun hHeld => ?nbf40)
                                                              case nbf40 =>
                                                                clear hK K hHB
                                                                have hHB := hHeld
                                                                try simp only [Act.put, List.setIfInBounds_toArray, List.set_cons_zero, List.set_cons_succ]
                                                                refine take_yes (i := 15) (v := ?vbf41) rfl (by kernel_rfl) (by kernel_rfl) (by kernel_rfl) (fun _ _ _ h => h) (by rfl) ?ybf41 hHB ?rbf41
                                                                case ybf41 => (intro w hSw; go_simp; (try with_reducible rfl))
                                                                case rbf41 =>
                                                                  try simp only [Act.put, List.setIfInBounds_toArray, List.set_cons_zero, List.set_cons_succ]
                                                                  refine wpAnyH_ready (rs := [16]) (by kernel_rfl) (by simp) ?bbf42
                                                                  case bbf42 =>
                                                                    refine cons_l rfl (fun K hK => ?sbf43) ?mbf43
                                                                    case sbf43 =>
                                                                      obtain ⟨cs, hcs, hcl⟩ := hPX.fr
                                                                      rw [if_pos (by rfl)]
                                                                      refine wp_store_mid _ _ _ rfl rb (t * 8) (rc8 1 n false ⟨0, 2 * (t : Int), 1, 0, false⟩).toArray rfl rfl (there_blk hcs (t * 8) 8 (by omega)) (by kernel_rfl) (rc8_one _ _ _) ?_
                                                                      have hPX := hPX.putR htn hgo (Eqv.refl _)
                                                                      refine hK.out _ _ trivial (fun hHeld => ?nbf43)
                                                                      case nbf43 =>
                                                                        clear hK K hHB
                                                                        have hHB := hHeld
                                                                        try simp only [Act.put]
                                                                        refine take_yes (i := 17) (v := ?vbf44) rfl (by kernel_rfl) (by kernel_rfl) (by kernel_rfl) (fun _ _ _ h => h) (by rfl) ?ybf44 hHB ?rbf44
                                                                        case ybf44 => (intro w hSw; go_simp; (try with_reducible rfl))
                                                                        case rbf44 =>
                                                                          try simp only [Act.put, List.setIfInBounds_toArray, List.set_cons_zero, List.set_cons_succ]
                                                                          refine wpAnyH_ready (rs := [18]) (by kernel_rfl) (by simp) ?bbf45
                                                                          case bbf45 =>
                                                                            refine cons_l rfl (fun K hK => ?sbf46) ?mbf46
                                                                            case sbf46 =>
                                                                              have f1 : (((((wc.setCell ⟨pb, t, none⟩ (.iface 59 (.pointer (some ⟨r, 0, none⟩)))).drew)).setCells rb (t * 8) (rc8 1 n false ⟨0, 2 * (t : Int), 1, 0, false⟩))).frozen? ⟨hb, t, none⟩ = false := hPX.fh.frozen t
                                                                              have f2 : (((((wc.setCell ⟨pb, t, none⟩ (.iface 59 (.pointer (some ⟨r, 0, none⟩)))).drew)).setCells rb (t * 8) (rc8 1 n false ⟨0, 2 * (t : Int), 1, 0, false⟩))).cell? ⟨hb, t, none⟩ = some (.bool false) := (hPX.fh.cell t).trans (by rw [List.getElem?_map, HH.out]; rfl)
                                                                              go_simp
                                                                              have hPX := hPX.putH t (.bool true)
                                                                              refine hK.out _ _ trivial (fun hHeld => ?nbf46)
                                                                              case nbf46 =>
                                                                                clear hK K hHB
                                                                                have hHB := hHeld
                                                                                try simp only [Act.put]
                                                                                refine wpAnyH_done (by kernel_rfl) ?_ _
                                                                                go_wp2_with fail
                                                                                go_meet
                                                                                refine ⟨by first | rfl | rw [ht], pl.set t (some (r, false, ⟨0, 2 * (t : Int), 1, 0, false⟩)), hl.set t true, r, false, ⟨0, 2 * (t : Int), 1, 0, false⟩, by rw [List.length_set]; exact hlh, ?_, hgo⟩
                                                                                rw [List.map_set, List.map_set]
                                                                                exact hPX
                                                                            case mbf46 =>
                                                                              exact AllReadyH.nil
                                                                    case mbf43 =>
                                                                      exact AllReadyH.nil
                                                            case mbf40 =>
                                                              exact AllReadyH.nil
                                                      case mbf38 =>
                                                        exact AllReadyH.nil
                                          case mbf25 =>
                                            exact AllReadyH.nil
              · rw [progI_R]
                go_upto_region 19 with fail
                have hPX := hPX.step (Below.refl _ _).drew
                have hrk := (World.rangeAt_drew _ _ _ _).2 hrk
                refine wp_region_held_drew (S := (fun _ => True)) (by kernel_rfl) ?hsbt (fun hHeld => ?hrbt)
                case hsbt => exact trivial
                case hrbt =>
                  have hHB := hHeld
                  clear hHeld
                  refine take_yes (i := 0) (v := ?vbt1) rfl (by kernel_rfl) (by kernel_rfl) (by kernel_rfl) (fun _ _ _ h => h) (by rfl) ?ybt1 hHB ?rbt1
                  case ybt1 => (intro w hSw; go_simp; (try with_reducible rfl))
                  case rbt1 =>
                    try simp only [Act.put, List.setIfInBounds_toArray, List.set_cons_zero, List.set_cons_succ]
                    refine take_yes (i := 1) (v := ?vbt2) rfl (by kernel_rfl) (by kernel_rfl) (by kernel_rfl) (fun _ _ _ h => h) (by rfl) ?ybt2 hHB ?rbt2
                    case ybt2 => (intro w hSw; go_simp; (try with_reducible rfl))
                    case rbt2 =>
                      try simp only [Act.put, List.setIfInBounds_toArray, List.set_cons_zero, List.set_cons_succ]
                      refine take_yes (i := 2) (v := ?vbt3) rfl (by kernel_rfl) (by kernel_rfl) (by kernel_rfl) (fun _ _ _ h => h) (by rfl) ?ybt3 hHB ?rbt3
                      case ybt3 => (intro w hSw; go_simp; (try with_reducible rfl))
                      case rbt3 =>
                        try simp only [Act.put, List.setIfInBounds_toArray, List.set_cons_zero, List.set_cons_succ]
                        refine take_yes (i := 3) (v := ?vbt4) rfl (by kernel_rfl) (by kernel_rfl) (by kernel_rfl) (fun _ _ _ h => h) (by rfl) ?ybt4 hHB ?rbt4
                        case ybt4 => (intro w hSw; go_simp; (try with_reducible rfl))
                        case rbt4 =>
                          try simp only [Act.put, List.setIfInBounds_toArray, List.set_cons_zero, List.set_cons_succ]
                          refine take_yes (i := 4) (v := ?vbt5) rfl (by kernel_rfl) (by kernel_rfl) (by kernel_rfl) (fun _ _ _ h => h) (by rfl) ?ybt5 hHB ?rbt5
                          case ybt5 => (intro w hSw; go_simp; (try with_reducible rfl))
                          case rbt5 =>
                            try simp only [Act.put, List.setIfInBounds_toArray, List.set_cons_zero, List.set_cons_succ]
                            refine take_yes (i := 5) (v := ?vbt6) rfl (by kernel_rfl) (by kernel_rfl) (by kernel_rfl) (fun _ _ _ h => h) (by rfl) ?ybt6 hHB ?rbt6
                            case ybt6 => (intro w hSw; go_simp; (try with_reducible rfl))
                            case rbt6 =>
                              try simp only [Act.put, List.setIfInBounds_toArray, List.set_cons_zero, List.set_cons_succ]
                              refine take_yes (i := 6) (v := ?vbt7) rfl (by kernel_rfl) (by kernel_rfl) (by kernel_rfl) (fun _ _ _ h => h) (by rfl) ?ybt7 hHB ?rbt7
                              case ybt7 => (intro w hSw; go_simp; (try with_reducible rfl))
                              case rbt7 =>
                                try simp only [Act.put, List.setIfInBounds_toArray, List.set_cons_zero, List.set_cons_succ]
                                refine take_yes (i := 8) (v := ?vbt8) rfl (by kernel_rfl) (by kernel_rfl) (by kernel_rfl) (fun _ _ _ h => h) (by rfl) ?ybt8 hHB ?rbt8
                                case ybt8 => (intro w hSw; go_simp; (try with_reducible rfl))
                                case rbt8 =>
                                  try simp only [Act.put, List.setIfInBounds_toArray, List.set_cons_zero, List.set_cons_succ]
                                  refine take_yes (i := 9) (v := ?vbt9) rfl (by kernel_rfl) (by kernel_rfl) (by kernel_rfl) (fun _ _ _ h => h) (by rfl) ?ybt9 hHB ?rbt9
                                  case ybt9 => (intro w hSw; go_simp; (try with_reducible rfl))
                                  case rbt9 =>
                                    try simp only [Act.put, List.setIfInBounds_toArray, List.set_cons_zero, List.set_cons_succ]
                                    refine take_yes (i := 10) (v := ?vbt10) rfl (by kernel_rfl) (by kernel_rfl) (by kernel_rfl) (fun _ _ _ h => h) (by rfl) ?ybt10 hHB ?rbt10
                                    case ybt10 => (intro w hSw; go_simp; (try with_reducible rfl))
                                    case rbt10 =>
                                      try simp only [Act.put, List.setIfInBounds_toArray, List.set_cons_zero, List.set_cons_succ]
                                      refine wpAnyH_ready (rs := [7, 11]) (by kernel_rfl) (by simp) ?bbt11
                                      case bbt11 =>
                                        refine cons_l rfl (fun K hK => ?sbt12) ?mbt12
                                        case sbt12 =>
                                          rw [if_pos (by rfl)]
                                          refine wp_load_mid _ _ rfl kk 0 rfl (rc8 1 n true ⟨0, 2 * (t : Int), 1, 0, false⟩) _ hrk Try.underlying46 rfl (by kernel_rfl) ?_
                                          refine hK.out _ _ trivial (fun hHeld => ?nbt12)
                                          case nbt12 =>
                                            clear hK K hHB
                                            have hHB := hHeld
                                            try simp only [Act.put, List.setIfInBounds_toArray, List.set_cons_zero, List.set_cons_succ]
                                            refine wpAnyH_ready (rs := [11]) (by kernel_rfl) (by simp) ?bbt13
                                            case bbt13 =>
                                              refine cons_l rfl (fun K hK => ?sbt14) ?mbt14
                                              case sbt14 =>
                                                go_simp
                                                refine hK.out _ _ trivial (fun hHeld => ?nbt14)
                                                case nbt14 =>
                                                  clear hK K hHB
                                                  have hHB := hHeld
                                                  try simp only [Act.put, List.setIfInBounds_toArray, List.set_cons_zero, List.set_cons_succ]
                                                  refine take_yes (i := 12) (v := ?vbt15) rfl (by kernel_rfl) (by kernel_rfl) (by kernel_rfl) (fun _ _ _ h => h) (by rfl) ?ybt15 hHB ?rbt15
                                                  case ybt15 => (intro w hSw; go_simp; (try with_reducible rfl))
                                                  case rbt15 =>
                                                    try simp only [Act.put, List.setIfInBounds_toArray, List.set_cons_zero, List.set_cons_succ]
                                                    refine take_yes (i := 13) (v := ?vbt16) rfl (by kernel_rfl) (by kernel_rfl) (by kernel_rfl) (fun _ _ _ h => h) (by rfl) ?ybt16 hHB ?rbt16
                                                    case ybt16 => (intro w hSw; go_simp; (try with_reducible rfl))
                                                    case rbt16 =>
                                                      try simp only [Act.put, List.setIfInBounds_toArray, List.set_cons_zero, List.set_cons_succ]
                                                      refine wpAnyH_ready (rs := [14]) (by kernel_rfl) (by simp) ?bbt17
                                                      case bbt17 =>
                                                        refine cons_l rfl (fun K hK => ?sbt18) ?mbt18
                                                        case sbt18 =>
                                                          have f1 := hPX.fp.frozen t
                                                          have f2 : (wc.drew).cell? ⟨pb, t, none⟩ = some .nilIface := by rw [hPX.fp.cell, List.getElem?_map, HP.out]; rfl
                                                          go_simp
                                                          have hrk := range_keep hrk ((Ch.refl (fun j => j = pb) _).setCell (p := ⟨pb, t, none⟩) (.inl rfl) (.iface 63 (.pointer (some ⟨r, 0, none⟩)))) (by omega)
                                                          have hPX := hPX.putP t (.iface 63 (.pointer (some ⟨r, 0, none⟩)))
                                                          refine hK.out _ _ trivial (fun hHeld => ?nbt18)
                                                          case nbt18 =>
                                                            clear hK K hHB
                                                            have hHB := hHeld
                                                            try simp only [Act.put]
                                                            refine take_yes (i := 15) (v := ?vbt19) rfl (by kernel_rfl) (by kernel_rfl) (by kernel_rfl) (fun _ _ _ h => h) (by rfl) ?ybt19 hHB ?rbt19
                                                            case ybt19 => (intro w hSw; go_simp; (try with_reducible rfl))
                                                            case rbt19 =>
                                                              try simp only [Act.put, List.setIfInBounds_toArray, List.set_cons_zero, List.set_cons_succ]
                                                              refine wpAnyH_ready (rs := [16]) (by kernel_rfl) (by simp) ?bbt20
                                                              case bbt20 =>
                                                                refine cons_l rfl (fun K hK => ?sbt21) ?mbt21
                                                                case sbt21 =>
                                                                  obtain ⟨cs, hcs, hcl⟩ := hPX.fr
                                                                  rw [if_pos (by rfl)]
                                                                  refine wp_store_mid _ _ _ rfl rb (t * 8) (rc8 1 n true ⟨0, 2 * (t : Int), 1, 0, false⟩).toArray rfl rfl (there_blk hcs (t * 8) 8 (by omega)) (by kernel_rfl) (rc8_one _ _ _) ?_
                                                                  have hPX := hPX.putR htn hgo (Eqv.refl _)
                                                                  refine hK.out _ _ trivial (fun hHeld => ?nbt21)
                                                                  case nbt21 =>
                                                                    clear hK K hHB
                                                                    have hHB := hHeld
                                                                    try simp only [Act.put]
                                                                    refine take_yes (i := 17) (v := ?vbt22) rfl (by kernel_rfl) (by kernel_rfl) (by kernel_rfl) (fun _ _ _ h => h) (by rfl) ?ybt22 hHB ?rbt22
                                                                    case ybt22 => (intro w hSw; go_simp; (try with_reducible rfl))
                                                                    case rbt22 =>
                                                                      try simp only [Act.put, List.setIfInBounds_toArray, List.set_cons_zero, List.set_cons_succ]
                                                                      refine wpAnyH_ready (rs := [18]) (by kernel_rfl) (by simp) ?bbt23
                                                                      case bbt23 =>
                                                                        refine cons_l rfl (fun K hK => ?sbt24) ?mbt24
                                                                        case sbt24 =>
                                                                          have f1 : (((((wc.setCell ⟨pb, t, none⟩ (.iface 63 (.pointer (some ⟨r, 0, none⟩)))).drew)).setCells rb (t * 8) (rc8 1 n true ⟨0, 2 * (t : Int), 1, 0, false⟩))).frozen? ⟨hb, t, none⟩ = false := hPX.fh.frozen t
                                                                          have f2 : (((((wc.setCell ⟨pb, t, none⟩ (.iface 63 (.pointer (some ⟨r, 0, none⟩)))).drew)).setCells rb (t * 8) (rc8 1 n true ⟨0, 2 * (t : Int), 1, 0, false⟩))).cell? ⟨hb, t, none⟩ = some (.bool true) := (hPX.fh.cell t).trans (by rw [List.getElem?_map, HH.out]; rfl)
                                                                          go_simp
                                                                          have hPX := hPX.putH t (.bool false)
                                                                          refine hK.out _ _ trivial (fun hHeld => ?nbt24)
                                                                          case nbt24 =>
                                                                            clear hK K hHB
                                                                            have hHB := hHeld
                                                                            try simp only [Act.put]
                                                                            refine wpAnyH_done (by kernel_rfl) ?_ _
                                                                            go_wp2_with fail
                                                                            go_meet
                                                                            refine ⟨by first | rfl | rw [ht], pl.set t (some (r, true, ⟨0, 2 * (t : Int), 1, 0, false⟩)), hl.set t false, r, true, ⟨0, 2 * (t : Int), 1, 0, false⟩, by rw [List.length_set]; exact hlh, ?_, hgo⟩
                                                                            rw [List.map_set, List.map_set]
                                                                            exact hPX
                                                                        case mbt24 =>
                                                                          exact AllReadyH.nil
                                                                case mbt21 =>
                                                                  exact AllReadyH.nil
                                                        case mbt18 =>
                                                          exact AllReadyH.nil
                                              case mbt14 =>
                                                exact AllReadyH.nil
                                        case mbt12 =>
                                          refine cons_l rfl (fun K hK => ?sbt25) ?mbt25
                                          case sbt25 =>
                                            go_simp
                                            refine hK.out _ _ trivial (fun hHeld => ?nbt25)
                                            case nbt25 =>
                                              clear hK K hHB
                                              have hHB := hHeld
                                              try simp only [Act.put, List.setIfInBounds_toArray, List.set_cons_zero, List.set_cons_succ]
                                              refine take_yes (i := 12) (v := ?vbt26) rfl (by kernel_rfl) (by kernel_rfl) (by kernel_rfl) (fun _ _ _ h => h) (by rfl) ?ybt26 hHB ?rbt26
                                              case ybt26 => (intro w hSw; go_simp; (try with_reducible rfl))
                                              case rbt26 =>
                                                try simp only [Act.put, List.setIfInBounds_toArray, List.set_cons_zero, List.set_cons_succ]
                                                refine take_yes (i := 13) (v := ?vbt27) rfl (by kernel_rfl) (by kernel_rfl) (by kernel_rfl) (fun _ _ _ h => h) (by rfl) ?ybt27 hHB ?rbt27
                                                case ybt27 => (intro w hSw; go_simp; (try with_reducible rfl))
                                                case rbt27 =>
                                                  try simp only [Act.put, List.setIfInBounds_toArray, List.set_cons_zero, List.set_cons_succ]
                                                  refine wpAnyH_ready (rs := [7, 14]) (by kernel_rfl) (by simp) ?bbt28
                                                  case bbt28 =>
                                                    refine cons_l rfl (fun K hK => ?sbt29) ?mbt29
                                                    case sbt29 =>
                                                      rw [if_pos (by rfl)]
                                                      refine wp_load_mid _ _ rfl kk 0 rfl (rc8 1 n true ⟨0, 2 * (t : Int), 1, 0, false⟩) _ hrk Try.underlying46 rfl (by kernel_rfl) ?_
                                                      refine hK.out _ _ trivial (fun hHeld => ?nbt29)
                                                      case nbt29 =>
                                                        clear hK K hHB
                                                        have hHB := hHeld
                                                        try simp only [Act.put, List.setIfInBounds_toArray, List.set_cons_zero, List.set_cons_succ]
                                                        refine wpAnyH_ready (rs := [14]) (by kernel_rfl) (by simp) ?bbt30
                                                        case bbt30 =>
                                                          refine cons_l rfl (fun K hK => ?sbt31) ?mbt31
                                                          case sbt31 =>
                                                            have f1 := hPX.fp.frozen t
                                                            have f2 : (wc.drew).cell? ⟨pb, t, none⟩ = some .nilIface := by rw [hPX.fp.cell, List.getElem?_map, HP.out]; rfl
                                                            go_simp
                                                            have hrk := range_keep hrk ((Ch.refl (fun j => j = pb) _).setCell (p := ⟨pb, t, none⟩) (.inl rfl) (.iface 63 (.pointer (some ⟨r, 0, none⟩)))) (by omega)
                                                            have hPX := hPX.putP t (.iface 63 (.pointer (some ⟨r, 0, none⟩)))
                                                            refine hK.out _ _ trivial (fun hHeld => ?nbt31)
                                                            case nbt31 =>
                                                              clear hK K hHB
                                                              have hHB := hHeld
                                                              try simp only [Act.put]
                                                              refine take_yes (i := 15) (v := ?vbt32) rfl (by kernel_rfl) (by kernel_rfl) (by kernel_rfl) (fun _ _ _ h => h) (by rfl) ?ybt32 hHB ?rbt32
                                                              case ybt32 => (intro w hSw; go_simp; (try with_reducible rfl))
                                                              case rbt32 =>
                                                                try simp only [Act.put, List.setIfInBounds_toArray, List.set_cons_zero, List.set_cons_succ]
                                                                refine wpAnyH_ready (rs := [16]) (by kernel_rfl) (by simp) ?bbt33
                                                                case bbt33 =>
                                                                  refine cons_l rfl (fun K hK => ?sbt34) ?mbt34
                                                                  case sbt34 =>
                                                                    obtain ⟨cs, hcs, hcl⟩ := hPX.fr
                                                                    rw [if_pos (by rfl)]
                                                                    refine wp_store_mid _ _ _ rfl rb (t * 8) (rc8 1 n true ⟨0, 2 * (t : Int), 1, 0, false⟩).toArray rfl rfl (there_blk hcs (t * 8) 8 (by omega)) (by kernel_rfl) (rc8_one _ _ _) ?_
                                                                    have hPX := hPX.putR htn hgo (Eqv.refl _)
                                                                    refine hK.out _ _ trivial (fun hHeld => ?nbt34)
                                                                    case nbt34 =>
                                                                      clear hK K hHB
                                                                      have hHB := hHeld
                                                                      try simp only [Act.put]
                                                                      refine take_yes (i := 17) (v := ?vbt35) rfl (by kernel_rfl) (by kernel_rfl) (by kernel_rfl) (fun _ _ _ h => h) (by rfl) ?ybt35 hHB ?rbt35
                                                                      case ybt35 => (intro w hSw; go_simp; (try with_reducible rfl))
                                                                      case rbt35 =>
                                                                        try simp only [Act.put, List.setIfInBounds_toArray, List.set_cons_zero, List.set_cons_succ]
                                                                        refine wpAnyH_ready (rs := [18]) (by kernel_rfl) (by simp) ?bbt36
                                                                        case bbt36 =>
                                                                          refine cons_l rfl (fun K hK => ?sbt37) ?mbt37
                                                                          case sbt37 =>
                                                                            have f1 : (((((wc.setCell ⟨pb, t, none⟩ (.iface 63 (.pointer (some ⟨r, 0, none⟩)))).drew)).setCells rb (t * 8) (rc8 1 n true ⟨0, 2 * (t : Int), 1, 0, false⟩))).frozen? ⟨hb, t, none⟩ = false := hPX.fh.frozen t
                                                                            have f2 : (((((wc.setCell ⟨pb, t, none⟩ (.iface 63 (.pointer (some ⟨r, 0, none⟩)))).drew)).setCells rb (t * 8) (rc8 1 n true ⟨0, 2 * (t : Int), 1, 0, false⟩))).cell? ⟨hb, t, none⟩ = some (.bool true) := (hPX.fh.cell t).trans (by rw [List.getElem?_map, HH.out]; rfl)
                                                                            go_simp
                                                                            have hPX := hPX.putH t (.bool false)
                                                                            refine hK.out _ _ trivial (fun hHeld => ?nbt37)
                                                                            case nbt37 =>
                                                                              clear hK K hHB
                                                                              have hHB := hHeld
                                                                              try simp only [Act.put]
                                                                              refine wpAnyH_done (by kernel_rfl) ?_ _
                                                                              go_wp2_with fail
                                                                              go_meet
                                                                              refine ⟨by first | rfl | rw [ht], pl.set t (some (r, true, ⟨0, 2 * (t : Int), 1, 0, false⟩)), hl.set t false, r, true, ⟨0, 2 * (t : Int), 1, 0, false⟩, by rw [List.length_set]; exact hlh, ?_, hgo⟩
                                                                              rw [List.map_set, List.map_set]
                                                                              exact hPX
                                                                          case mbt37 =>
                                                                            exact AllReadyH.nil
                                                                  case mbt34 =>
                                                                    exact AllReadyH.nil
                                                          case mbt31 =>
                                                            exact AllReadyH.nil
                                                    case mbt29 =>
                                                      refine cons_l rfl (fun K hK => ?sbt38) ?mbt38
                                                      case sbt38 =>
                                                        have f1 := hPX.fp.frozen t
                                                        have f2 : (wc.drew).cell? ⟨pb, t, none⟩ = some .nilIface := by rw [hPX.fp.cell, List.getElem?_map, HP.out]; rfl
                                                        go_simp
                                                        have hrk := range_keep hrk ((Ch.refl (fun j => j = pb) _).setCell (p := ⟨pb, t, none⟩) (.inl rfl) (.iface 63 (.pointer (some ⟨r, 0, none⟩)))) (by omega)
                                                        have hPX := hPX.putP t (.iface 63 (.pointer (some ⟨r, 0, none⟩)))
                                                        refine hK.out _ _ trivial (fun hHeld => ?nbt38)
                                                        case nbt38 =>
                                                          clear hK K hHB
                                                          have hHB := hHeld
                                                          try simp only [Act.put]
                                                          refine wpAnyH_ready (rs := [7]) (by kernel_rfl) (by simp) ?bbt39
                                                          case bbt39 =>
                                                            refine cons_l rfl (fun K hK => ?sbt40) ?mbt40
                                                            case sbt40 =>
                                                              rw [if_pos (by rfl)]
                                                              refine wp_load_mid _ _ rfl kk 0 rfl (rc8 1 n true ⟨0, 2 * (t : Int), 1, 0, false⟩) _ hrk Try.underlying46 rfl (by kernel_rfl) ?_
                                                              refine hK.out _ _ trivial (fun hHeld => ?nbt40)
                                                              case nbt40 =>
                                                                clear hK K hHB
                                                                have hHB := hHeld
                                                                try simp only [Act.put, List.setIfInBounds_toArray, List.set_cons_zero, List.set_cons_succ]
                                                                refine take_yes (i := 15) (v := ?vbt41) rfl (by kernel_rfl) (by kernel_rfl) (by kernel_rfl) (fun _ _ _ h => h) (by rfl) ?ybt41 hHB ?rbt41
                                                                case ybt41 => (intro w hSw; go_simp; (try with_reducible rfl))
                                                                case rbt41 =>
                                                                  try simp only [Act.put, List.setIfInBounds_toArray, List.set_cons_zero, List.set_cons_succ]
                                                                  refine wpAnyH_ready (rs := [16]) (by kernel_rfl) (by simp) ?bbt42
                                                                  case bbt42 =>
                                                                    refine cons_l rfl (fun K hK => ?sbt43) ?mbt43
                                                                    case sbt43 =>
                                                                      obtain ⟨cs, hcs, hcl⟩ := hPX.fr
                                                                      rw [if_pos (by rfl)]
                                                                      refine wp_store_mid _ _ _ rfl rb (t * 8) (rc8 1 n true ⟨0, 2 * (t : Int), 1, 0, false⟩).toArray rfl rfl (there_blk hcs (t * 8) 8 (by omega)) (by kernel_rfl) (rc8_one _ _ _) ?_
                                                                      have hPX := hPX.putR htn hgo (Eqv.refl _)
                                                                      refine hK.out _ _ trivial (fun hHeld => ?nbt43)
                                                                      case nbt43 =>
                                                                        clear hK K hHB
                                                                        have hHB := hHeld
                                                                        try simp only [Act.put]
                                                                        refine take_yes (i := 17) (v := ?vbt44) rfl (by kernel_rfl) (by kernel_rfl) (by kernel_rfl) (fun _ _ _ h => h) (by rfl) ?ybt44 hHB ?rbt44
                                                                        case ybt44 => (intro w hSw; go_simp; (try with_reducible rfl))
                                                                        case rbt44 =>
                                                                          try simp only [Act.put, List.setIfInBounds_toArray, List.set_cons_zero, List.set_cons_succ]
                                                                          refine wpAnyH_ready (rs := [18]) (by kernel_rfl) (by simp) ?bbt45
                                                                          case bbt45 =>
                                                                            refine cons_l rfl (fun K hK => ?sbt46) ?mbt46
                                                                            case sbt46 =>
                                                                              have f1 : (((((wc.setCell ⟨pb, t, none⟩ (.iface 63 (.pointer (some ⟨r, 0, none⟩)))).drew)).setCells rb (t * 8) (rc8 1 n true ⟨0, 2 * (t : Int), 1, 0, false⟩))).frozen? ⟨hb, t, none⟩ = false := hPX.fh.frozen t
                                                                              have f2 : (((((wc.setCell ⟨pb, t, none⟩ (.iface 63 (.pointer (some ⟨r, 0, none⟩)))).drew)).setCells rb (t * 8) (rc8 1 n true ⟨0, 2 * (t : Int), 1, 0, false⟩))).cell? ⟨hb, t, none⟩ = some (.bool true) := (hPX.fh.cell t).trans (by rw [List.getElem?_map, HH.out]; rfl)
                                                                              go_simp
                                                                              have hPX := hPX.putH t (.bool false)
                                                                              refine hK.out _ _ trivial (fun hHeld => ?nbt46)
                                                                              case nbt46 =>
                                                                                clear hK K hHB
                                                                                have hHB := hHeld
                                                                                try simp only [Act.put]
                                                                                refine wpAnyH_done (by kernel_rfl) ?_ _
                                                                                go_wp2_with fail
                                                                                go_meet
                                                                                refine ⟨by first | rfl | rw [ht], pl.set t (some (r, true, ⟨0, 2 * (t : Int), 1, 0, false⟩)), hl.set t false, r, true, ⟨0, 2 * (t : Int), 1, 0, false⟩, by rw [List.length_set]; exact hlh, ?_, hgo⟩
                                                                                rw [List.map_set, List.map_set]
                                                                                exact hPX
                                                                            case mbt46 =>
                                                                              exact AllReadyH.nil
                                                                    case mbt43 =>
                                                                      exact AllReadyH.nil
                                                            case mbt40 =>
                                                              exact AllReadyH.nil
                                                      case mbt38 =>
                                                        exact AllReadyH.nil
                                          case mbt25 =>
                                            exact AllReadyH.nil
          · go_wp2_with fail
            go_meet
            exact ⟨by first | rfl | rw [ht], pl, hl, r, bb, x, hlh, hS, HP.out⟩
        case rest =>
          clear gn en cp ch hS hcx HP HH p hh pl hl hlh
          obtain ⟨rfl, pl, hl, r, bb, x, hlh, hS, hp⟩ := hcut
          have HP := Lib.hid hp
          clear hp
          obtain ⟨y, hE, hry⟩ := hS.fy t r bb x trivial HP.out
          have cp : wc.cell? ⟨pb, t, none⟩ = some (progI bb r) := by rw [hS.fp.cell, List.getElem?_map, HP.out]; rfl
          obtain ⟨sp2, hrow⟩ := hS.ko.mem.row
          have hrn := hS.ko.run _ (List.mem_of_getElem? HP.out)
          obtain ⟨cs0, hcs0, _⟩ := hS.fr
          have lp := hS.fp.lt
          have lr := hcs0.lt
          have lg := hrow.lt
          have lq : r < wc.heap.size := hrn.1.lt
          have hnp : ¬ (pb = r ∨ pb = g) := by
            rintro (e | e)
            · exact Blk.ne hS.fp hrn.1 (show 33 ≠ Tp bb from by cases bb <;> decide) e
            · exact Blk.ne hS.fp hrow (by decide) e
          have hnr : ¬ (rb = r ∨ rb = g) := by
            rintro (e | e)
            · exact Blk.ne hcs0 hrn.1 (show 46 ≠ Tp bb from by cases bb <;> decide) e
            · exact Blk.ne hcs0 hrow (by decide) e
          have hcall := fun wA (hA : Below wc.heap.size wc wA) => does_any bb r W.heap.size b g (1 + 6 * n) 1 n x y ws A7 (1 + 6 * n) c7 (fun q => Apart g pb rb hb vb pl q ∧ q < wc.heap.size) wA ((hS.step hA).ko.sat HP.out) (by omega) hE
            ((hS.fw.mono (fun q hq k => ⟨k, hq⟩)).keep (Ch.of_below hA (fun _ => False)) (fun _ _ _ e => e)) (fun q k => ⟨k.1.1, k.1.2.2.2.2.2 _ (List.mem_of_getElem? HP.out)⟩) hS.wl hS.wc.1 hS.wc.2.1 hS.wc.2.2
          have hlen : (stp bb 1 n x ws).ws.length = 1 + 6 * n := by rw [stp_len]; exact hS.wl
          generalize stp bb 1 n x ws = o at hcall hlen
          have HC := Lib.hid hcall
          unfold DoesP at HC
          clear hcall hrn hrow hcs0
          go_upto_region 20 with fail
          go_cut [20, 21, 22] (fun s20 s21 s22 wx => ∃ (kk : Nat) (A2 : Option Addr) (c2 : Nat) (y2 : Rn), s20 = .pointer (some ⟨kk, 0, none⟩) ∧ s21 = .slice A2 (1 + 6 * n) c2 ∧ s22 = .bool true ∧ wx.rangeAt kk 0 (rc8 1 n bb y2) ∧ Eqv o.x y2 ∧ PX W wx W.heap.size b g pb rb hb vb n A2 c2 (pl.set t (some (r, bb, o.x))) (pl.map progV) (hl.map Value.bool) o.ws (fun s => s ≠ t) ∧ kk ≠ rb)
          case first =>
            refine wp_region_held_drew (S := (fun w' => w'.cell? ⟨pb, t, none⟩ = some (progI bb r) ∧ w'.rangeAt rb (t * 8) (rc8 1 n bb y))) (by kernel_rfl) ?hsd (fun hHeld => ?hrd)
            case hsd => exact ⟨by go_cell, (World.rangeAt_drew _ _ _ _).2 hry⟩
            case hrd =>
              obtain ⟨hHc, hHr⟩ := hHeld
              refine take_yes (i := 0) (v := ?vd1) rfl (by kernel_rfl) (by kernel_rfl) (by kernel_rfl) (fun _ _ _ h => h) (by rfl) ?yd1 ⟨hHc, hHr⟩ ?rd1
              case yd1 => (intro w hSw; obtain ⟨hSw, hSr⟩ := hSw; go_simp; (try with_reducible rfl))
              case rd1 =>
                try simp only [Act.put, List.setIfInBounds_toArray, List.set_cons_zero, List.set_cons_succ]
                refine take_yes (i := 1) (v := ?vd2) rfl (by kernel_rfl) (by kernel_rfl) (by kernel_rfl) (fun _ _ _ h => h) (by rfl) ?yd2 ⟨hHc, hHr⟩ ?rd2
                case yd2 => (intro w hSw; obtain ⟨hSw, hSr⟩ := hSw; go_simp; (try with_reducible rfl))
                case rd2 =>
                  try simp only [Act.put, List.setIfInBounds_toArray, List.set_cons_zero, List.set_cons_succ]
                  refine take_yes (i := 2) (v := ?vd3) rfl (by kernel_rfl) (by kernel_rfl) (by kernel_rfl) (fun _ _ _ h => h) (by rfl) ?yd3 ⟨hHc, hHr⟩ ?rd3
                  case yd3 => (intro w hSw; obtain ⟨hSw, hSr⟩ := hSw; go_simp; (try with_reducible rfl))
                  case rd3 =>
                    try simp only [Act.put, List.setIfInBounds_toArray, List.set_cons_zero, List.set_cons_succ]
                    refine take_yes (i := 3) (v := ?vd4) rfl (by kernel_rfl) (by kernel_rfl) (by kernel_rfl) (fun _ _ _ h => h) (by rfl) ?yd4 ⟨hHc, hHr⟩ ?rd4
                    case yd4 => (intro w hSw; obtain ⟨hSw, hSr⟩ := hSw; go_simp; (try with_reducible rfl))
                    case rd4 =>
                      try simp only [Act.put, List.setIfInBounds_toArray, List.set_cons_zero, List.set_cons_succ]
                      refine take_yes (i := 4) (v := ?vd5) rfl (by kernel_rfl) (by kernel_rfl) (by kernel_rfl) (fun _ _ _ h => h) (by rfl) ?yd5 ⟨hHc, hHr⟩ ?rd5
                      case yd5 => (intro w hSw; obtain ⟨hSw, hSr⟩ := hSw; go_simp; (try with_reducible rfl))
                      case rd5 =>
                        try simp only [Act.put, List.setIfInBounds_toArray, List.set_cons_zero, List.set_cons_succ]
                        refine take_yes (i := 5) (v := ?vd6) rfl (by kernel_rfl) (by kernel_rfl) (by kernel_rfl) (fun _ _ _ h => h) (by rfl) ?yd6 ⟨hHc, hHr⟩ ?rd6
                        case yd6 => (intro w hSw; obtain ⟨hSw, hSr⟩ := hSw; go_simp; (try with_reducible rfl))
                        case rd6 =>
                          try simp only [Act.put, List.setIfInBounds_toArray, List.set_cons_zero, List.set_cons_succ]
                          refine take_yes (i := 6) (v := ?vd7) rfl (by kernel_rfl) (by kernel_rfl) (by kernel_rfl) (fun _ _ _ h => h) (by rfl) ?yd7 ⟨hHc, hHr⟩ ?rd7
                          case yd7 => (intro w hSw; obtain ⟨hSw, hSr⟩ := hSw; go_simp; (try with_reducible rfl))
                          case rd7 =>
                            try simp only [Act.put, List.setIfInBounds_toArray, List.set_cons_zero, List.set_cons_succ]
                            refine take_mid (i := 7) rfl (by kernel_rfl) (by kernel_rfl) (by kernel_rfl) _ _ rfl rb (t * 8) (rc8 1 n bb y) (fun _ _ _ h => h) (by rfl) rfl _ ?yd8 Try.underlying46 rfl (by kernel_rfl) ⟨hHc, hHr⟩ ?rd8
                            case yd8 => (intro w hSw; exact hSw.2)
                            case rd8 =>
                              try simp only [Act.put, List.setIfInBounds_toArray, List.set_cons_zero, List.set_cons_succ]
                              refine take_yes (i := 8) (v := ?vd9) rfl (by kernel_rfl) (by kernel_rfl) (by kernel_rfl) (fun _ _ _ h => h) (by rfl) ?yd9 ⟨hHc, hHr⟩ ?rd9
                              case yd9 => (intro w hSw; obtain ⟨hSw, hSr⟩ := hSw; go_simp; (try with_reducible rfl))
                              case rd9 =>
                                try simp only [Act.put, List.setIfInBounds_toArray, List.set_cons_zero, List.set_cons_succ]
                                refine take_yes (i := 9) (v := ?vd10) rfl (by kernel_rfl) (by kernel_rfl) (by kernel_rfl) (fun _ _ _ h => h) (by rfl) ?yd10 ⟨hHc, hHr⟩ ?rd10
                                case yd10 => (intro w hSw; obtain ⟨hSw, hSr⟩ := hSw; go_simp; (try with_reducible rfl))
                                case rd10 =>
                                  try simp only [Act.put, List.setIfInBounds_toArray, List.set_cons_zero, List.set_cons_succ]
                                  refine wpAnyH_ready (rs := [10, 15]) (by kernel_rfl) (by simp) ?bd11
                                  case bd11 =>
                                    refine cons_l rfl (fun K hK => ?sd12) ?md12
                                    case sd12 =>
                                      go_simp
                                      refine (HC.out _ (Below.refl _ _).drew).mono ?_
                                      rintro e w5 ⟨A2, c2, y2, rfl, hE2, hs5, hr5, k1, k2, k3, hc5⟩
                                      go_wp2_with fail
                                      refine hK.out _ _ ⟨hc5.keeps hHc hnp, range_keep hHr hc5 hnr⟩ (fun hHeld => ?nd12)
                                      case nd12 =>
                                        clear hK K hHc hHr
                                        obtain ⟨hHc, hHr⟩ := hHeld
                                        try simp only [Act.put, List.setIfInBounds_toArray, List.set_cons_zero, List.set_cons_succ]
                                        refine take_yes (i := 11) (v := ?vd13) rfl (by kernel_rfl) (by kernel_rfl) (by kernel_rfl) (fun _ _ _ h => h) (by rfl) ?yd13 ⟨hHc, hHr⟩ ?rd13
                                        case yd13 => (intro w hSw; obtain ⟨hSw, hSr⟩ := hSw; go_simp; (try with_reducible rfl))
                                        case rd13 =>
                                          try simp only [Act.put, List.setIfInBounds_toArray, List.set_cons_zero, List.set_cons_succ]
                                          refine take_yes (i := 12) (v := ?vd14) rfl (by kernel_rfl) (by kernel_rfl) (by kernel_rfl) (fun _ _ _ h => h) (by rfl) ?yd14 ⟨hHc, hHr⟩ ?rd14
                                          case yd14 => (intro w hSw; obtain ⟨hSw, hSr⟩ := hSw; go_simp; (try with_reducible rfl))
                                          case rd14 =>
                                            try simp only [Act.put, List.setIfInBounds_toArray, List.set_cons_zero, List.set_cons_succ]
                                            refine take_yes (i := 13) (v := ?vd15) rfl (by kernel_rfl) (by kernel_rfl) (by kernel_rfl) (fun _ _ _ h => h) (by rfl) ?yd15 ⟨hHc, hHr⟩ ?rd15
                                            case yd15 => (intro w hSw; obtain ⟨hSw, hSr⟩ := hSw; go_simp; (try with_reducible rfl))
                                            case rd15 =>
                                              try simp only [Act.put, List.setIfInBounds_toArray, List.set_cons_zero, List.set_cons_succ]
                                              refine take_yes (i := 14) (v := ?vd16) rfl (by kernel_rfl) (by kernel_rfl) (by kernel_rfl) (fun _ _ _ h => h) (by rfl) ?yd16 ⟨hHc, hHr⟩ ?rd16
                                              case yd16 => (intro w hSw; obtain ⟨hSw, hSr⟩ := hSw; go_simp; (try with_reducible rfl))
                                              case rd16 =>
                                                try simp only [Act.put, List.setIfInBounds_toArray, List.set_cons_zero, List.set_cons_succ]
                                                refine wpAnyH_ready (rs := [15]) (by kernel_rfl) (by simp) ?bd17
                                                case bd17 =>
                                                  refine cons_l rfl (fun K hK => ?sd18) ?md18
                                                  case sd18 =>
                                                    go_simp
                                                    have hz : Blk ((w5).alloc (.cells z8.toArray 46)) w5.heap.size 46 z8 := Blk.new _ _ _
                                                    have hk1 : wc.heap.size ≤ w5.heap.size := hc5.size
                                                    refine hK.out _ _ ⟨((Ch.refl (fun _ => False) _).alloc _).keeps hHc (fun e => e), World.rangeAt_alloc hHr _⟩ (fun hHeld => ?nd18)
                                                    case nd18 =>
                                                      clear hK K hHc hHr
                                                      obtain ⟨hHc, hHr⟩ := hHeld
                                                      try simp only [Act.put, List.setIfInBounds_toArray, List.set_cons_zero, List.set_cons_succ]
                                                      refine wpAnyH_ready (rs := [16]) (by kernel_rfl) (by simp) ?bd19
                                                      case bd19 =>
                                                        refine cons_l rfl (fun K hK => ?sd20) ?md20
                                                        case sd20 =>
                                                          have hrun := run_here hz rfl n bb y2
                                                          rw [if_pos (by rfl)]
                                                          refine wp_store_mid _ _ _ rfl w5.heap.size 0 (rc8 1 n bb y2).toArray rfl rfl hrun.1 (by kernel_rfl) (rc8_one _ _ _) ?_
                                                          refine hK.out _ _ ⟨hrun.2.2.keeps hHc (by show pb ≠ w5.heap.size; omega), range_keep hHr hrun.2.2 (by show rb ≠ w5.heap.size; omega)⟩ (fun hHeld => ?nd20)
                                                          case nd20 =>
                                                            clear hK K hHc hHr
                                                            obtain ⟨hHc, hHr⟩ := hHeld
                                                            try simp only [Act.put]
                                                            refine take_yes (i := 17) (v := ?vd21) rfl (by kernel_rfl) (by kernel_rfl) (by kernel_rfl) (fun _ _ _ h => h) (by rfl) ?yd21 ⟨hHc, hHr⟩ ?rd21
                                                            case yd21 => (intro w hSw; obtain ⟨hSw, hSr⟩ := hSw; go_simp; (try with_reducible rfl))
                                                            case rd21 =>
                                                              try simp only [Act.put, List.setIfInBounds_toArray, List.set_cons_zero, List.set_cons_succ]
                                                              refine take_yes (i := 18) (v := ?vd22) rfl (by kernel_rfl) (by kernel_rfl) (by kernel_rfl) (fun _ _ _ h => h) (by rfl) ?yd22 ⟨hHc, hHr⟩ ?rd22
                                                              case yd22 => (intro w hSw; obtain ⟨hSw, hSr⟩ := hSw; go_simp; (try with_reducible rfl))
                                                              case rd22 =>
                                                                try simp only [Act.put, List.setIfInBounds_toArray, List.set_cons_zero, List.set_cons_succ]
                                                                refine wpAnyH_done (by kernel_rfl) ?_ _
                                                                go_wp2_with fail
                                                                go_meet
                                                                refine ⟨_, A2, c2, y2, rfl, rfl, rfl, hrun.2.1, hE2, ?_, by omega⟩
                                                                exact hS.turn HP.out (Below.refl _ _).drew hs5 hr5 k1 k2 k3 hlen hc5 hk1 (((Ch.refl (fun j => j = w5.heap.size) w5).alloc _).trans hrun.2.2 (fun _ _ e => e)) (fun q h1 _ => by omega)
                                                        case md20 =>
                                                          exact AllReadyH.nil
                                                  case md18 =>
                                                    exact AllReadyH.nil
                                    case md12 =>
                                      refine cons_l rfl (fun K hK => ?sd23) ?md23
                                      case sd23 =>
                                        go_simp
                                        have hz : Blk ((wc.drew).alloc (.cells z8.toArray 46)) wc.heap.size 46 z8 := Blk.new _ _ _
                                        have hk1 : wc.heap.size ≤ wc.heap.size := Nat.le_refl _
                                        refine hK.out _ _ ⟨((Ch.refl (fun _ => False) _).alloc _).keeps hHc (fun e => e), World.rangeAt_alloc hHr _⟩ (fun hHeld => ?nd23)
                                        case nd23 =>
                                          clear hK K hHc hHr
                                          obtain ⟨hHc, hHr⟩ := hHeld
                                          try simp only [Act.put, List.setIfInBounds_toArray, List.set_cons_zero, List.set_cons_succ]
                                          refine wpAnyH_ready (rs := [10]) (by kernel_rfl) (by simp) ?bd24
                                          case bd24 =>
                                            refine cons_l rfl (fun K hK => ?sd25) ?md25
                                            case sd25 =>
                                              go_simp
                                              refine (HC.out _ ((Below.refl _ _).drew.alloc (Nat.le_refl _) _)).mono ?_
                                              rintro e w5 ⟨A2, c2, y2, rfl, hE2, hs5, hr5, k1, k2, k3, hc5⟩
                                              go_wp2_with fail
                                              have hz := hz.keep hc5 (by rintro (e | e) <;> omega)
                                              refine hK.out _ _ ⟨hc5.keeps hHc hnp, range_keep hHr hc5 hnr⟩ (fun hHeld => ?nd25)
                                              case nd25 =>
                                                clear hK K hHc hHr
                                                obtain ⟨hHc, hHr⟩ := hHeld
                                                try simp only [Act.put, List.setIfInBounds_toArray, List.set_cons_zero, List.set_cons_succ]
                                                refine take_yes (i := 11) (v := ?vd26) rfl (by kernel_rfl) (by kernel_rfl) (by kernel_rfl) (fun _ _ _ h => h) (by rfl) ?yd26 ⟨hHc, hHr⟩ ?rd26
                                                case yd26 => (intro w hSw; obtain ⟨hSw, hSr⟩ := hSw; go_simp; (try with_reducible rfl))
                                                case rd26 =>
                                                  try simp only [Act.put, List.setIfInBounds_toArray, List.set_cons_zero, List.set_cons_succ]
                                                  refine take_yes (i := 12) (v := ?vd27) rfl (by kernel_rfl) (by kernel_rfl) (by kernel_rfl) (fun _ _ _ h => h) (by rfl) ?yd27 ⟨hHc, hHr⟩ ?rd27
                                                  case yd27 => (intro w hSw; obtain ⟨hSw, hSr⟩ := hSw; go_simp; (try with_reducible rfl))
                                                  case rd27 =>
                                                    try simp only [Act.put, List.setIfInBounds_toArray, List.set_cons_zero, List.set_cons_succ]
                                                    refine take_yes (i := 13) (v := ?vd28) rfl (by kernel_rfl) (by kernel_rfl) (by kernel_rfl) (fun _ _ _ h => h) (by rfl) ?yd28 ⟨hHc, hHr⟩ ?rd28
                                                    case yd28 => (intro w hSw; obtain ⟨hSw, hSr⟩ := hSw; go_simp; (try with_reducible rfl))
                                                    case rd28 =>
                                                      try simp only [Act.put, List.setIfInBounds_toArray, List.set_cons_zero, List.set_cons_succ]
                                                      refine take_yes (i := 14) (v := ?vd29) rfl (by kernel_rfl) (by kernel_rfl) (by kernel_rfl) (fun _ _ _ h => h) (by rfl) ?yd29 ⟨hHc, hHr⟩ ?rd29
                                                      case yd29 => (intro w hSw; obtain ⟨hSw, hSr⟩ := hSw; go_simp; (try with_reducible rfl))
                                                      case rd29 =>
                                                        try simp only [Act.put, List.setIfInBounds_toArray, List.set_cons_zero, List.set_cons_succ]
                                                        refine wpAnyH_ready (rs := [16]) (by kernel_rfl) (by simp) ?bd30
                                                        case bd30 =>
                                                          refine cons_l rfl (fun K hK => ?sd31) ?md31
                                                          case sd31 =>
                                                            have hrun := run_here hz rfl n bb y2
                                                            rw [if_pos (by rfl)]
                                                            refine wp_store_mid _ _ _ rfl wc.heap.size 0 (rc8 1 n bb y2).toArray rfl rfl hrun.1 (by kernel_rfl) (rc8_one _ _ _) ?_
                                                            refine hK.out _ _ ⟨hrun.2.2.keeps hHc (by show pb ≠ wc.heap.size; omega), range_keep hHr hrun.2.2 (by show rb ≠ wc.heap.size; omega)⟩ (fun hHeld => ?nd31)
                                                            case nd31 =>
                                                              clear hK K hHc hHr
                                                              obtain ⟨hHc, hHr⟩ := hHeld
                                                              try simp only [Act.put]
                                                              refine take_yes (i := 17) (v := ?vd32) rfl (by kernel_rfl) (by kernel_rfl) (by kernel_rfl) (fun _ _ _ h => h) (by rfl) ?yd32 ⟨hHc, hHr⟩ ?rd32
                                                              case yd32 => (intro w hSw; obtain ⟨hSw, hSr⟩ := hSw; go_simp; (try with_reducible rfl))
                                                              case rd32 =>
                                                                try simp only [Act.put, List.setIfInBounds_toArray, List.set_cons_zero, List.set_cons_succ]
                                                                refine take_yes (i := 18) (v := ?vd33) rfl (by kernel_rfl) (by kernel_rfl) (by kernel_rfl) (fun _ _ _ h => h) (by rfl) ?yd33 ⟨hHc, hHr⟩ ?rd33
                                                                case yd33 => (intro w hSw; obtain ⟨hSw, hSr⟩ := hSw; go_simp; (try with_reducible rfl))
                                                                case rd33 =>
                                                                  try simp only [Act.put, List.setIfInBounds_toArray, List.set_cons_zero, List.set_cons_succ]
                                                                  refine wpAnyH_done (by kernel_rfl) ?_ _
                                                                  go_wp2_with fail
                                                                  go_meet
                                                                  refine ⟨_, A2, c2, y2, rfl, rfl, rfl, hrun.2.1, hE2, ?_, by omega⟩
                                                                  exact hS.turn HP.out ((Below.refl _ _).drew.alloc (Nat.le_refl _) _) hs5 hr5 k1 k2 k3 hlen hc5 hk1 hrun.2.2 (fun q _ h2 => by rw [World.size_alloc, World.size_drew] at h2; omega)
                                                          case md31 =>
                                                            exact AllReadyH.nil
                                            case md25 =>
                                              exact AllReadyH.nil
                                      case md23 =>
                                        exact AllReadyH.nil
          case rest =>
            clear hS cp hry HC lp lr lg lq
            obtain ⟨kk, A2, c2, y2, rfl, rfl, rfl, hrk, hE2, hP, hkr⟩ := hcut
            have htl : t < pl.length := (List.getElem?_eq_some_iff.1 HP.out).1
            have hgo : (pl.set t (some (r, bb, o.x)))[t]? = some (some (r, bb, o.x)) := List.getElem?_set_self htl
            obtain ⟨cs, hcs, hcl⟩ := hP.fr
            have hth := there_blk hcs (t * 8) 8 (by omega)
            have hQ := hP.putR htn hgo hE2
            have h7 : (wc.setCells rb (t * 8) (rc8 1 n bb y2)).cell? ⟨kk, 7, none⟩ = some (.bool y2.ended) := (World.rangeAt_setCells_apart hrk rb (t * 8) _ (.inl hkr)) 7 _ rfl
            have h8 : (wc.setCells rb (t * 8) (rc8 1 n bb y2)).cell? ⟨pb, t, none⟩ = some (progI bb r) := (hQ.fp.cell t).trans (by rw [List.getElem?_map, HP.out]; rfl)
            have h9 : (wc.setCells rb (t * 8) (rc8 1 n bb y2)).frozen? ⟨pb, t, none⟩ = false := hQ.fp.frozen t
            have HQ := Lib.hid hQ
            have HPL := Lib.hid hlh
            clear hQ hP hcs hcl hlh
            have f0 : wc.cell? ⟨kk, 0, none⟩ = some (.int .i64 1) := hrk 0 _ rfl
            have f1 : wc.cell? ⟨kk, 1, none⟩ = some (.int .i64 n) := hrk 1 _ rfl
            have f2 : wc.cell? ⟨kk, 2, none⟩ = some (.int .i64 y2.lock) := hrk 2 _ rfl
            have f3 : wc.cell? ⟨kk, 3, none⟩ = some (.int .i64 y2.node) := hrk 3 _ rfl
            have f4 : wc.cell? ⟨kk, 4, none⟩ = some (.bool bb) := hrk 4 _ rfl
            have f5 : wc.cell? ⟨kk, 5, none⟩ = some (.int .i64 y2.pc) := hrk 5 _ rfl
            have f6 : wc.cell? ⟨kk, 6, none⟩ = some (.int .u64 y2.other) := hrk 6 _ rfl
            have f7 : wc.cell? ⟨kk, 7, none⟩ = some (.bool y2.ended) := hrk 7 _ rfl
            have H7 := Lib.hid h7
            have H8 := Lib.hid h8
            have H9 := Lib.hid h9
            have HTH := Lib.hid hth
            clear hrk hth h7 h8 h9 hE2 hgo
            go_upto_region 24 with (refine wl_store 46 _ _ rb (t * 8) (rc8 1 n bb y2).toArray ?_ ?_ ?_ ?_ ?_ ?_; (focus rfl); (focus rfl); (focus (exact HTH.out)); (focus kernel_rfl); (focus (exact rc8_one _ _ _)))
            clear f0 f1 f2 f3 f4 f5 f6 f7 HTH
            have HW := HQ.out.ko.below
            generalize wc.setCells rb (t * 8) (rc8 1 n bb y2) = wz at H7 H8 H9 HQ HW ⊢
            have h7 := H7.out
            cases hend : y2.ended
            · rw [hend] at h7
              clear hend
              go_wp2_with fail
              go_roundg (xs.length - (k + 1))
              case measure => omega
              case rel => exact ⟨k + 1, A2, c2, pl.set t (some (r, bb, o.x)), hl, o.ws, rfl, by go_num, by omega, rfl, HPL.out, by rw [map_progV_set pl t r bb x o.x HP.out]; exact HQ.out⟩
            · rw [hend] at h7
              have h8 := H8.out
              have h9 := H9.out
              clear hend
              go_wp2_with fail
              go_roundg (xs.length - (k + 1))
              case measure => omega
              case rel =>
                have hc := (HQ.out.putP t .nilIface).clear t
                rw [List.set_set] at hc
                exact ⟨k + 1, A2, c2, pl.set t none, hl, o.ws, rfl, by go_num, by omega, rfl, HPL.out, by rw [List.map_set]; exact hc⟩
      · obtain rfl : k = xs.length := by omega
        have hend := hS.ko.below
        clear hS hlh
        go_wp2_with (go_at_call 8; refine (known_ok _).mono ?_; rintro e w' ⟨rfl, hkb⟩)
        go_ret
        exact ⟨rfl, by (repeat' (first | (with_reducible exact Below.refl _ _) | (with_reducible assumption) | (with_reducible refine Below.alloc ?_ ?_ _) | (with_reducible refine Below.drew ?_) | (with_reducible refine below_drewN ?_ _) | (with_reducible refine Below.setCell ?_ ?_ _) | (with_reducible refine Below.trans ?_ (Below.mono (by assumption) ?_)) | (first | go_size | (with_reducible exact Below.size (by assumption)) | (with_reducible exact Nat.le_trans (Below.size (by assumption)) (Below.size (by assumption))) | (refine Nat.le_trans (Below.size (by assumption)) ?_; go_size))))⟩
end McsPlays
end Go.Proofs.Ytmlhdcpahfgckaa
