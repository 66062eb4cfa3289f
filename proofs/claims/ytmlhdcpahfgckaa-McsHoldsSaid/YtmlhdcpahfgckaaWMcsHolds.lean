/-
  The walk of McsHolds: it returns true at every input.
-/
import Derived.Test.YtmlhdcpahfgckaaMcsD
import Derived.Test.YtmlhdcpahfgckaaMcsJ
import Derived.Test.YtmlhdcpahfgckaaK08
import Derived.Deep.DeepCutAuto
namespace Go.Proofs.Ytmlhdcpahfgckaa
open Go.RowKit
namespace McsHolds

theorem wf_u8 {x : Int} (h : (Lit.int .u8 x).wf = true) : 0 ≤ x ∧ x ≤ 255 := by
  simp [Lit.wf, IntKind.min, IntKind.max, IntKind.signed, IntKind.bits] at h
  omega
theorem make_prog (n : Nat) (hn : n ≤ 1000) (w : World) :
    (Instr.makeSlice 42 (.int .u8 (n : Int)) (.int .u8 (n : Int))).run Try.prog w = .ok (.slice (some ⟨w.heap.size, 0, none⟩) n n) (w.alloc (.cells (List.replicate n Value.nilIface).toArray 33)) := by
  have hinfo : (Try.prog.info? 33).map (fun i => (i.zero, i.size, i.bytes)) = some (some .nilIface, 1, 16) := by kernel_rfl
  obtain ⟨i0, hi0, hz0, hz1, hz2⟩ := info_parts hinfo
  have hr := run_make (P := Try.prog) w 42 33 i0 _ Try.underlying42 hi0 hz0 .u8 .u8 n n (by omega) (by omega) (by rw [hz2]; omega) (by omega)
  rw [hz1] at hr
  simp only [Int.toNat_natCast, Nat.mul_one] at hr
  rw [show (Value.nilIface).cells = #[.nilIface] from rfl, madeCells_one] at hr
  exact hr
theorem make_bool (n : Nat) (hn : n ≤ 1000) (w : World) :
    (Instr.makeSlice 44 (.int .u8 (n : Int)) (.int .u8 (n : Int))).run Try.prog w = .ok (.slice (some ⟨w.heap.size, 0, none⟩) n n) (w.alloc (.cells (List.replicate n (Value.bool false)).toArray 4)) := by
  have hinfo : (Try.prog.info? 4).map (fun i => (i.zero, i.size, i.bytes)) = some (some (.bool false), 1, 1) := by kernel_rfl
  obtain ⟨i0, hi0, hz0, hz1, hz2⟩ := info_parts hinfo
  have hr := run_make (P := Try.prog) w 44 4 i0 _ Try.underlying44 hi0 hz0 .u8 .u8 n n (by omega) (by omega) (by rw [hz2]; omega) (by omega)
  rw [hz1] at hr
  simp only [Int.toNat_natCast, Nat.mul_one] at hr
  rw [show (Value.bool false).cells = #[.bool false] from rfl, madeCells_one] at hr
  exact hr
theorem two_new (w : World) (a : Array Value) (T : TypeId) (o : Obj) : Blk ((w.alloc (.cells a T)).alloc o).drew w.heap.size T a.toList ∧ Blk ((w.alloc o).alloc (.cells a T)).drew (w.heap.size + 1) T a.toList := by
  have h1 : Blk (w.alloc (.cells a T)) w.heap.size T a.toList := by unfold Blk; simpa using heap_alloc_new w (.cells a T)
  have h2 : Blk ((w.alloc o).alloc (.cells a T)) (w.alloc o).heap.size T a.toList := by unfold Blk; simpa using heap_alloc_new (w.alloc o) (.cells a T)
  rw [World.size_alloc] at h2
  exact ⟨h1.keep (((Ch.refl (fun _ => False) _).alloc o).drew) (fun e => e), h2.keep ((Ch.refl (fun _ => False) _).drew) (fun e => e)⟩
def PF (pl : List (Option (Nat × Bool × Rn))) : Pr := fun t => match pl[t]? with | some (some (_, b, x)) => some (b, x) | _ => none
def HF (hl : List Bool) : Nat → Bool := fun t => (hl[t]?).getD false
theorem PF_put (pl : List (Option (Nat × Bool × Rn))) {t : Nat} (ht : t < pl.length) (r : Nat) (b : Bool) (x : Rn) : PF (pl.set t (some (r, b, x))) = upd (PF pl) t (some (b, x)) := by
  funext s
  unfold PF upd
  by_cases e : s = t
  · subst e; rw [List.getElem?_set_self ht]; simp
  · rw [List.getElem?_set_ne (fun h => e h.symm), if_neg e]
theorem PF_clear (pl : List (Option (Nat × Bool × Rn))) {t : Nat} (ht : t < pl.length) : PF (pl.set t none) = upd (PF pl) t none := by
  funext s
  unfold PF upd
  by_cases e : s = t
  · subst e; rw [List.getElem?_set_self ht]; simp
  · rw [List.getElem?_set_ne (fun h => e h.symm), if_neg e]
theorem HF_set (hl : List Bool) {t : Nat} (ht : t < hl.length) (v : Bool) : HF (hl.set t v) = upd (HF hl) t v := by
  funext s
  unfold HF upd
  by_cases e : s = t
  · subst e; rw [List.getElem?_set_self ht]; simp
  · rw [List.getElem?_set_ne (fun h => e h.symm), if_neg e]
theorem PF_at {pl : List (Option (Nat × Bool × Rn))} {t r : Nat} {b : Bool} {x : Rn} (h : pl[t]? = some (some (r, b, x))) : PF pl t = some (b, x) := by unfold PF; rw [h]
theorem HF_any {hl : List Bool} (h : hl.any id = false) (s : Nat) : HF hl s = false := by
  unfold HF
  cases e : hl[s]? with
  | none => rfl
  | some b =>
    rw [List.any_eq_false] at h
    have := h b (List.mem_of_getElem? e)
    simpa using this

theorem guard_nil (p : Option (Nat × Bool × Rn)) (a : Operand) (w : World) : (eqGuard BinOp.eql 33 a (.const .nilIface) (progV p) .nilIface).run Try.prog w = .ok () w := by
  rcases p with _ | ⟨r, bk, x⟩
  · cases a <;> kernel_rfl
  · cases bk <;> kernel_rfl
theorem eq_nil (p : Option (Nat × Bool × Rn)) (w : World) : (binOp BinOp.eql 33 (progV p) .nilIface).run Try.prog w = .ok (.bool p.isNone) w := by
  rcases p with _ | ⟨r, bk, x⟩
  · kernel_rfl
  · cases bk <;> kernel_rfl
theorem assert_R (r : Nat) (w : World) : (Instr.typeAssert (.iface 63 (.pointer (some ⟨r, 0, none⟩))) 33 59 true).run Try.prog w = .ok (.tuple #[.pointer none, .bool false]) w := by kernel_rfl
theorem assert_A (r : Nat) (w : World) : (Instr.typeAssert (.iface 59 (.pointer (some ⟨r, 0, none⟩))) 33 59 true).run Try.prog w = .ok (.tuple #[.pointer (some ⟨r, 0, none⟩), .bool true]) w := by kernel_rfl
theorem Tp_ne2 (bk : Bool) : 33 ≠ Tp bk ∧ 4 ≠ Tp bk ∧ 3 ≠ Tp bk := by cases bk <;> decide
theorem any_HF {hl : List Bool} (h : ∀ s, HF hl s = false) : hl.any id = false := by
  rw [List.any_eq_false]
  intro a ha
  obtain ⟨j, hj⟩ := List.mem_iff_getElem?.1 ha
  have := h j
  unfold HF at this
  rw [hj] at this
  simpa using this
/-- what stands at a round's head -/
structure HS0 (W wr : World) (nb b g pb hb n : Nat) (v : Value) (pl : List (Option (Nat × Bool × Rn))) (hl : List Bool) (ws : List Int) (q : List Nat) : Prop where
  ko : KO W wr nb 1 n b g (1 + 6 * n) ws pl
  fp : Blk wr pb 33 (pl.map progV)
  fh : Blk wr hb 4 (hl.map Value.bool)
  fq : QAt W wr v q
  lp : pl.length = n
  lh : hl.length = n
  pW : W.heap.size ≤ pb
  hW : W.heap.size ≤ hb
structure HSt (W wr : World) (nb b g pb hb n : Nat) (v : Value) (pl : List (Option (Nat × Bool × Rn))) (hl : List Bool) (ws : List Int) (q : List Nat) : Prop extends HS0 W wr nb b g pb hb n v pl hl ws q where
  inv : ∃ o, Inv n (PF pl) (HF hl) ws q o
section
variable {W wr w' : World} {nb b g pb hb n : Nat} {v : Value} {pl : List (Option (Nat × Bool × Rn))} {hl : List Bool} {ws ws' : List Int} {q : List Nat} {t r : Nat} {bk : Bool} {x x' : Rn} {f : FuncId} {args : Array Value} {res : Value}
theorem HS0.step0 (h : HS0 W wr nb b g pb hb n v pl hl ws q) (hb' : Below wr.heap.size wr w') : HS0 W w' nb b g pb hb n v pl hl ws q :=
  ⟨h.ko.step hb', h.fp.keep (Ch.of_below hb' (fun _ => False)) (fun e => e), h.fh.keep (Ch.of_below hb' (fun _ => False)) (fun e => e), h.fq.below hb', h.lp, h.lh, h.pW, h.hW⟩
theorem HSt.step (h : HSt W wr nb b g pb hb n v pl hl ws q) (hb' : Below wr.heap.size wr w') : HSt W w' nb b g pb hb n v pl hl ws q := ⟨h.toHS0.step0 hb', h.inv⟩
theorem HS0.load (h : HS0 W wr nb b g pb hb n v pl hl ws q) (hw : 1 ≤ ws.length) {v0 : Int} (h0 : ws.getD 0 0 = v0) :
    Calls Try.prog 20 #[.pointer (some ⟨b, 0, none⟩), .int .i64 0] wr fun e w' => e = .returned (.tuple #[.int .u64 v0, .int .i64 0]) ∧ HS0 W w' nb b g pb hb n v pl hl ws q := by
  have := mload_any b g (1 + 6 * n) ws 0 wr h.ko.mem
  rw [doB_ok ws 1 0 (by omega) (by omega) (by omega), doE_ok ws 1 0 (by omega) (by omega) (by omega), show (0 : Int).toNat = 0 from rfl, h0] at this
  refine this.mono fun e w' ⟨h1, h2, h3⟩ => ⟨h1, h.ko.ofM h2 h3, h.fp.keep h3 ?_, h.fh.keep h3 ?_, h.fq.keep h3 (fun k cs hk _ e => ?_), h.lp, h.lh, h.pW, h.hW⟩
  · obtain ⟨sp, hrow⟩ := h.ko.mem.row; exact Blk.ne h.fp hrow (by decide)
  · obtain ⟨sp, hrow⟩ := h.ko.mem.row; exact Blk.ne h.fh hrow (by decide)
  · obtain ⟨sp, hrow⟩ := h.ko.mem.row; exact Blk.ne hk hrow (by decide) e
theorem map_progV_set (pl : List (Option (Nat × Bool × Rn))) (t r : Nat) (bk : Bool) (x x' : Rn) (h : pl[t]? = some (some (r, bk, x))) : (pl.set t (some (r, bk, x'))).map progV = pl.map progV := by
  rw [List.map_set]
  apply List.ext_getElem?
  intro i
  by_cases e : t = i
  · subst e
    have hl := (List.getElem?_eq_some_iff.1 h).1
    rw [List.getElem?_set_self (by simpa using hl), List.getElem?_map, h]
    rfl
  · rw [List.getElem?_set_ne e]
theorem HS0.onP (h : HS0 W wr nb b g pb hb n v pl hl ws q) (hi : pl[t]? = some (some (r, bk, x))) (hc : Calls Try.prog f args wr (SaP wr bk r W.heap.size b g (1 + 6 * n) 1 n x' ws' res)) (hnb : nb = W.heap.size) :
    Calls Try.prog f args wr fun e w' => e = .returned res ∧ HS0 W w' nb b g pb hb n v (pl.set t (some (r, bk, x'))) hl ws' q := by
  subst hnb
  refine (h.ko.onP hi hc).mono fun e w' ⟨h1, h2, h3⟩ => ⟨h1, h2, ?_, ?_, ?_, by rw [List.length_set]; exact h.lp, h.lh, h.pW, h.hW⟩
  all_goals
    obtain ⟨sp, hrow⟩ := h.ko.mem.row
    have hrT := (h.ko.run _ (List.mem_of_getElem? hi)).1
    have hT := Tp_ne bk
  · rw [map_progV_set pl t r bk x x' hi]
    exact h.fp.keep h3 (by rintro (e | e); exact Blk.ne h.fp hrT (Tp_ne2 bk).1 e; exact Blk.ne h.fp hrow (by decide) e)
  · exact h.fh.keep h3 (by rintro (e | e); exact Blk.ne h.fh hrT (Tp_ne2 bk).2.1 e; exact Blk.ne h.fh hrow (by decide) e)
  · exact h.fq.keep h3 (fun k cs hk _ => by rintro (e | e); exact Blk.ne hk hrT (Tp_ne2 bk).2.2 e; exact Blk.ne hk hrow (by decide) e)
/-- the program of a thread has ended: its place holds none -/
theorem HS0.clear (h : HS0 W wr nb b g pb hb n v pl hl ws q) (t : Nat) : HS0 W (wr.setCell ⟨pb, t, none⟩ .nilIface) nb b g pb hb n v (pl.set t none) hl ws q := by
  have c1 := (Ch.refl (fun j => j = pb) wr).setCell (p := ⟨pb, t, none⟩) (.inl rfl) .nilIface
  have hne : hb ≠ pb := Blk.ne h.fh h.fp (by decide)
  refine ⟨(h.ko.store h.fp h.pW t .nilIface (by decide)).clear t, ?_, h.fh.keep c1 hne, h.fq.keep c1 (fun k cs hk _ e => Blk.ne hk h.fp (by decide) e), by rw [List.length_set]; exact h.lp, h.lh, h.pW, h.hW⟩
  rw [List.map_set]
  exact h.fp.set t .nilIface
/-- a thread has the lock -/
theorem HS0.takes (h : HS0 W wr nb b g pb hb n v pl hl ws q) (t : Nat) {v' : Value} {q' : List Nat} (hq : QAt W wr v' q') : HS0 W (wr.setCell ⟨hb, t, none⟩ (.bool true)) nb b g pb hb n v' pl (hl.set t true) ws q' := by
  have c1 := (Ch.refl (fun j => j = hb) wr).setCell (p := ⟨hb, t, none⟩) (.inl rfl) (.bool true)
  have hne : pb ≠ hb := Blk.ne h.fp h.fh (by decide)
  refine ⟨h.ko.store h.fh h.hW t (.bool true) (by decide), h.fp.keep c1 hne, ?_, hq.keep c1 (fun k cs hk _ e => Blk.ne hk h.fh (by decide) e), h.lp, by rw [List.length_set]; exact h.lh, h.pW, h.hW⟩
  rw [List.map_set]
  exact h.fh.set t (.bool true)
/-- behind an append to the queue -/
theorem HS0.grown (h : HS0 W wr nb b g pb hb n v pl hl ws q) {v' : Value} {q' : List Nat} (hq : QAt W w' v' q') (hc : Ch (fun j => ∃ cs, Blk wr j 3 cs ∧ W.heap.size ≤ j) wr w') : HS0 W w' nb b g pb hb n v' pl hl ws q' := by
  obtain ⟨sp, hrow⟩ := h.ko.mem.row
  refine ⟨h.ko.keep hc (fun j _ e => e.choose_spec.2) ?_ ?_ ?_ (fun p hp => ?_), h.fp.keep hc ?_, h.fh.keep hc ?_, hq, h.lp, h.lh, h.pW, h.hW⟩
  · rintro ⟨cs, e, _⟩; exact Blk.ne h.ko.nd.c e (by decide) rfl
  · rintro ⟨cs, e, _⟩; exact Blk.ne h.ko.mem.hd e (by decide) rfl
  · rintro ⟨cs, e, _⟩; exact Blk.ne hrow e (by decide) rfl
  · rintro ⟨cs, e, _⟩
    obtain ⟨r, bk, x⟩ := p
    exact Blk.ne (h.ko.run _ hp).1 e (Tp_ne2 bk).2.2.symm rfl
  · rintro ⟨cs, e, _⟩; exact Blk.ne h.fp e (by decide) rfl
  · rintro ⟨cs, e, _⟩; exact Blk.ne h.fh e (by decide) rfl
/-- the queue loses its first -/
theorem QAt.pop {t : Nat} {q2 : List Nat} (h : QAt W wr v (t :: q2)) : ∃ g o c, v = .slice (some ⟨g, o, none⟩) (q2.length + 1) c ∧ q2.length + 1 ≤ c ∧ c ≤ 9223372036854775807 ∧ wr.cell? ⟨g, o, none⟩ = some (.int .i64 t) ∧ (∃ cur, Blk wr g 3 cur) ∧
    (c = 1 → QAt W wr (.slice (some ⟨g, o, none⟩) q2.length 0) q2) ∧ QAt W wr (.slice (some ⟨g, o + 1, none⟩) q2.length (c - 1)) q2 := by
  rcases h.ex with ⟨_, h⟩ | ⟨g, o, c, cur, h1, h2, h3, h4, h5, h6, h7⟩
  · cases h
  · simp only [List.length_cons] at h1 h3
    refine ⟨g, o, c, h1, h3, h5, ?_, ⟨cur, h2⟩, fun e => ⟨.inr ⟨g, o, 0, cur, rfl, h2, by omega, by omega, by omega, h6, fun j hj => by omega⟩⟩, ⟨.inr ⟨g, o + 1, c - 1, cur, rfl, h2, by omega, by omega, by omega, h6, fun j hj => ?_⟩⟩⟩
    · have := h7 0 (by simp)
      rw [Nat.add_zero] at this
      rw [h2.cell, this]
      rfl
    · have := h7 (j + 1) (by simpa using hj)
      rw [show o + 1 + j = o + (j + 1) by omega, this]
      rfl
end
set_option maxRecDepth 100000 in
set_option maxHeartbeats 4000000 in
theorem walk (a0 : Int) (w0 : (Lit.int .u8 a0).wf = true) (A : Option Addr) (m c : Nat) (xs : List Int) (l : xs.length = m) (hmc : m ≤ c) (hcm : c ≤ 9223372036854775807) (_hz : A = none → c = 0) (W : World)
    (hr : Rd (fun b => b < W.heap.size) W A (xs.map (Value.int .u8))) (hwf : ∀ x ∈ xs, (Lit.int .u8 x).wf = true) :
    Calls Try.prog 5 #[.int .u8 a0, .slice A m c] W fun e w' => e = .returned (.bool true) ∧ Below W.heap.size W w' := by
  subst l
  have h0 := wf_u8 w0
  clear w0
  by_cases hbad : a0 < 1 ∨ 6 < a0 ∨ 150 < xs.length
  · have d3 : decide (150 < (xs.length : Int)) = decide (150 < xs.length) := by rw [decide_eq_decide]; omega
    go_enter Try.func5, Try.ntmps5
    go_wp2_with (go_at_call 8; refine (known_ok _).mono ?_; rintro e w' ⟨rfl, hkb⟩)
    all_goals first
      | (go_ret; exact ⟨rfl, by (repeat' (first | (with_reducible exact Below.refl _ _) | (with_reducible assumption) | (with_reducible refine Below.alloc ?_ ?_ _) | (with_reducible refine Below.drew ?_) | (with_reducible refine below_drewN ?_ _) | (with_reducible refine Below.setCell ?_ ?_ _) | (with_reducible refine Below.trans ?_ (Below.mono (by assumption) ?_)) | (first | go_size | (with_reducible exact Below.size (by assumption)) | (with_reducible exact Nat.le_trans (Below.size (by assumption)) (Below.size (by assumption))) | (refine Nat.le_trans (Below.size (by assumption)) ?_; go_size))))⟩)
      | (exfalso; omega)
  obtain ⟨n, rfl⟩ : ∃ n : Nat, a0 = n := ⟨a0.toNat, by omega⟩
  have n1 : 1 ≤ n := by omega
  have n2 : n ≤ 6 := by omega
  have d1 : decide ((n : Int) < 1) = false := decide_eq_false (by omega)
  have d2 : decide ((6 : Int) < n) = false := decide_eq_false (by omega)
  have d3 : decide ((150 : Int) < xs.length) = false := decide_eq_false (by omega)
  have hx150 : xs.length ≤ 150 := by omega
  have hmk : ∀ w, (Instr.makeSlice 28 (.int .i64 (1 + 6 * (n : Int))) (.int .i64 (1 + 6 * (n : Int)))).run Try.prog w = .ok (.slice (some ⟨w.heap.size, 0, none⟩) (1 + 6 * n) (1 + 6 * n)) (w.alloc (.cells (u64s (List.replicate (1 + 6 * n) 0)).toArray 22)) := fun w => by
    have := make_u64 (1 + 6 * n) (by omega) w
    simpa using this
  have mp := make_prog n (by omega)
  have mb := make_bool n (by omega)
  generalize hZ : u64s (List.replicate (1 + 6 * n) 0) = Z at hmk
  generalize hZP : (List.replicate n Value.nilIface).toArray = ZP at mp
  generalize hZB : (List.replicate n (Value.bool false)).toArray = ZB at mb
  have HZ := Lib.hid hZ
  have HZP := Lib.hid hZP
  have HZB := Lib.hid hZB
  clear hbad h0 hZ hZP hZB
  go_enter Try.func5, Try.ntmps5
  go_wp2_with fail
  refine (qnew_ok 1 n _ (by omega) (by omega) (by omega) (by omega)).mono ?_
  rintro e w1 ⟨rfl, rfl⟩
  go_wp2_with fail
  refine (made_ok (some ⟨W.heap.size + 1, 0, none⟩) (List.replicate (1 + 6 * n) 0) (1 + 6 * n) (1 + 6 * n) _ ?_ (by simp) (by omega) (by omega) (by omega) (fun x hx => by rw [List.eq_of_mem_replicate hx]; omega)).mono ?_
  · have hT := Blk.new (W.alloc (.cells #[.int .i64 1, .int .i64 n] 62)) 22 Z
    rw [World.size_alloc] at hT
    rw [HZ.out]
    exact Rd.of_blk hT (List.prefix_refl _) (by simp)
  rintro e w1 ⟨b, g, rfl, hm, hb, hg, hB1⟩
  rw [List.length_replicate] at hm
  have hK : KO W w1 W.heap.size 1 n b g (1 + 6 * n) (List.replicate (1 + 6 * n) 0) (List.replicate n none) := ⟨⟨(Blk.new W 62 [.int .i64 1, .int .i64 n]).keep (Ch.of_below (show Below _ (W.alloc _) w1 from Below.trans (by (repeat' (first | (with_reducible exact Below.refl _ _) | (with_reducible assumption) | (with_reducible refine Below.alloc ?_ ?_ _) | (with_reducible refine Below.drew ?_) | (with_reducible refine below_drewN ?_ _) | (with_reducible refine Below.setCell ?_ ?_ _) | (with_reducible refine Below.trans ?_ (Below.mono (by assumption) ?_)) | (first | go_size | (with_reducible exact Below.size (by assumption)) | (with_reducible exact Nat.le_trans (Below.size (by assumption)) (Below.size (by assumption))) | (refine Nat.le_trans (Below.size (by assumption)) ?_; go_size))))) (hB1.mono (by simp))) (fun _ => False)) (fun e => e), by omega, by omega, by omega, by omega⟩, hm, fun p hp => (by have := List.eq_of_mem_replicate hp; cases this), fun i j p q hp => (by rw [List.getElem?_replicate] at hp; split at hp <;> cases hp), Below.trans (by (repeat' (first | (with_reducible exact Below.refl _ _) | (with_reducible assumption) | (with_reducible refine Below.alloc ?_ ?_ _) | (with_reducible refine Below.drew ?_) | (with_reducible refine below_drewN ?_ _) | (with_reducible refine Below.setCell ?_ ?_ _) | (with_reducible refine Below.trans ?_ (Below.mono (by assumption) ?_)) | (first | go_size | (with_reducible exact Below.size (by assumption)) | (with_reducible exact Nat.le_trans (Below.size (by assumption)) (Below.size (by assumption))) | (refine Nat.le_trans (Below.size (by assumption)) ?_; go_size))))) (hB1.mono (by simp; omega)), by simp at hg; omega, by simp at hb; omega, Nat.le_refl _⟩
  clear hm hb hg hB1 hmk
  go_upto_region 7 with fail
  go_cut [8, 9] (fun s8 s9 wx => ∃ pb hb, s8 = .slice (some ⟨pb, 0, none⟩) n n ∧ s9 = .slice (some ⟨hb, 0, none⟩) n n ∧ Blk wx pb 33 ZP.toList ∧ Blk wx hb 4 ZB.toList ∧ Below w1.heap.size w1 wx ∧ w1.heap.size ≤ pb ∧ w1.heap.size ≤ hb)
  case first =>
    go_region
    all_goals
      go_wp2_with fail
      go_meet
      refine ⟨_, _, rfl, rfl, ?_, ?_, by (repeat' (first | (with_reducible exact Below.refl _ _) | (with_reducible assumption) | (with_reducible refine Below.alloc ?_ ?_ _) | (with_reducible refine Below.drew ?_) | (with_reducible refine below_drewN ?_ _) | (with_reducible refine Below.setCell ?_ ?_ _) | (with_reducible refine Below.trans ?_ (Below.mono (by assumption) ?_)) | (first | go_size | (with_reducible exact Below.size (by assumption)) | (with_reducible exact Nat.le_trans (Below.size (by assumption)) (Below.size (by assumption))) | (refine Nat.le_trans (Below.size (by assumption)) ?_; go_size)))), ?_, ?_⟩
      all_goals first | (go_size; done) | exact (two_new _ _ _ _).1 | exact (two_new _ _ _ _).2
  case rest =>
    obtain ⟨pb, hb, rfl, rfl, hPB, hHB, hBx, hpw, hhw⟩ := hcut
    have hzK := hK.below.size
    have hS : HSt W wc W.heap.size b g pb hb n (.slice none 0 0) (List.replicate n none) (List.replicate n false) (List.replicate (1 + 6 * n) 0) [] := by
      refine ⟨⟨hK.step hBx, ?_, ?_, ⟨.inl ⟨rfl, rfl⟩⟩, by simp, by simp, by omega, by omega⟩, none, ?_⟩
      · rw [List.map_replicate]; rw [← HZP.out] at hPB; exact hPB
      · rw [List.map_replicate]; rw [← HZB.out] at hHB; exact hHB
      · have e1 : PF (List.replicate n none) = fun _ => none := by
          funext s; unfold PF; rw [List.getElem?_replicate]; split <;> rename_i h
          · split at h <;> simp at h
          · rfl
        have e2 : HF (List.replicate n false) = fun _ => false := by
          funext s; unfold HF; rw [List.getElem?_replicate]; split <;> rfl
        rw [e1, e2]
        exact Inv.new n
    clear hK hPB hHB hBx hpw hhw hzK mp mb HZ HZP HZB
    go_wp2_with fail
    go_loopg [10, 62] (xs.length) (fun gk v10 v62 wr => ∃ (k : Nat) (pl : List (Option (Nat × Bool × Rn))) (hl : List Bool) (ws : List Int) (q : List Nat), gk = xs.length - k ∧ v62 = .int .i64 k ∧ k ≤ xs.length ∧ HSt W wr W.heap.size b g pb hb n v10 pl hl ws q ∧ q.length ≤ k)
    case atStart => exact ⟨0, _, _, _, _, rfl, rfl, Nat.zero_le _, hS, Nat.le_refl _⟩
    case round =>
      clear hS
      obtain ⟨k, pl, hl, ws, q, rfl, rfl, hk, hS, hql⟩ := hrel
      by_cases hlt : k < xs.length
      · obtain ⟨bA, oA, rfl, hbA, hcx⟩ := (hr.keep (Ch.of_below hS.ko.below (fun _ => False)) (fun _ _ _ e => e)).at (j := k) (by simpa using hlt)
        rw [List.getElem_map] at hcx
        have hXb := wf_u8 (hwf _ (List.getElem_mem hlt))
        generalize xs[k] = X at hcx hXb
        obtain ⟨t, ht⟩ : ∃ t : Nat, X % (n : Int) = t := ⟨(X % (n : Int)).toNat, by have := Int.emod_nonneg X (b := (n : Int)) (by omega); omega⟩
        have htn : t < n := by have := Int.emod_lt_of_pos X (b := (n : Int)) (by omega); omega
        have i1 : (0 : Int) ≤ k := Int.natCast_nonneg _
        have i2 : (k : Int) < xs.length := by omega
        have i3 : (k : Int) < c := by omega
        have i4 : (0 : Int) ≤ t := Int.natCast_nonneg _
        have i5 : (t : Int) < n := by omega
        obtain ⟨p, hp⟩ : ∃ p, pl[t]? = some p := ⟨_, List.getElem?_eq_getElem (by rw [hS.lp]; exact htn)⟩
        obtain ⟨hh, hhe⟩ : ∃ y, hl[t]? = some y := ⟨_, List.getElem?_eq_getElem (by rw [hS.lh]; exact htn)⟩
        have cp : wr.cell? ⟨pb, t, none⟩ = some (progV p) := by rw [hS.fp.cell, List.getElem?_map, hp]; rfl
        have ch : wr.cell? ⟨hb, t, none⟩ = some (.bool hh) := by rw [hS.fh.cell, List.getElem?_map, hhe]; rfl
        have HP := Lib.hid hp
        have HH := Lib.hid hhe
        have HQL := Lib.hid hql
        clear hp hhe hql
        have gn := guard_nil p
        have en := eq_nil p
        go_upto_if 75 with fail
        go_cut [13, 14, 15] (fun s13 s14 s15 wx => s13 = .int .i64 t ∧ ∃ (pl2 : List (Option (Nat × Bool × Rn))) (hl2 : List Bool) (r : Nat) (bb : Bool) (x : Rn), HSt W wx W.heap.size b g pb hb n u10 pl2 hl2 ws q ∧ pl2[t]? = some (some (r, bb, x)))
        case first =>
          clear gn en
          rcases p with _ | ⟨r, bb, x⟩
          · rw [show progV none = .nilIface from rfl] at cp
            have h6 := hS.fh.frozen t
            have h7 := hS.fp.frozen t
            go_wp2_with fail
            refine (begin_ok W.heap.size 1 n 0 (2 * (t : Int)) hh _ hS.ko.nd (by unfold okRun; omega)).mono ?_
            rintro e w2 ⟨r, rfl, hrw, hR, hB⟩
            have hpl : PF pl t = none := by unfold PF; rw [HP.out]
            have hhl : HF hl t = hh := by unfold HF; rw [HH.out]; rfl
            have hK2 := hS.ko.put t hB hR hrw (pcOk_new hh 0 (2 * (t : Int))) (show (0 : Int) ≤ 2 * (t : Int) ∧ 2 * (t : Int) < (n : Int) * 2 by omega) (by show (0 : Int) ≤ 0 ∧ (0 : Int) ≤ 18446744073709551615; omega)
            have hS2 := hS.step hB
            have hI2 : ∃ o, Inv n (upd (PF pl) t (some (hh, ⟨0, 2 * (t : Int), 1, 0, false⟩))) (upd (HF hl) t false) ws q o := by
              obtain ⟨o, hI⟩ := hS.inv
              exact ⟨o, hhl ▸ hI.begin htn hpl⟩
            have hfin : HSt W ((w2.setCell ⟨pb, t, none⟩ (progI hh r)).setCell ⟨hb, t, none⟩ (.bool false)) W.heap.size b g pb hb n u10 (pl.set t (some (r, hh, ⟨0, 2 * (t : Int), 1, 0, false⟩))) (hl.set t false) ws q := by
              have hne : pb ≠ hb := Blk.ne hS2.fp hS2.fh (by decide)
              have c1 := (Ch.refl (fun j => j = pb) w2).setCell (p := ⟨pb, t, none⟩) (.inl rfl) (progI hh r)
              have c2 := (Ch.refl (fun j => j = hb) (w2.setCell ⟨pb, t, none⟩ (progI hh r))).setCell (p := ⟨hb, t, none⟩) (.inl rfl) (.bool false)
              have f1 := hS2.fp.set t (progI hh r)
              have f2 := (hS2.fh.keep c1 hne.symm).set t (.bool false)
              have q1 := (hS2.fq.keep c1 (fun k cs hk _ e => Blk.ne hk hS2.fp (by decide) e)).keep c2 (fun k cs hk _ e => Blk.ne hk (hS2.fh.keep c1 hne.symm) (by decide) e)
              have k1 := (hK2.store hS2.fp hS2.pW t (progI hh r) (by decide)).store (hS2.fh.keep c1 hne.symm) hS2.hW t (.bool false) (by decide)
              refine ⟨⟨k1, ?_, ?_, q1, by rw [List.length_set, hS.lp], by rw [List.length_set, hS.lh], hS.pW, hS.hW⟩, ?_⟩
              · rw [List.map_set]; exact f1.keep c2 hne
              · rw [List.map_set]; exact f2
              · rw [PF_put pl (by rw [hS.lp]; exact htn), HF_set hl (by rw [hS.lh]; exact htn)]
                exact hI2
            have hgo : (pl.set t (some (r, hh, ⟨0, 2 * (t : Int), 1, 0, false⟩)))[t]? = some (some (r, hh, ⟨0, 2 * (t : Int), 1, 0, false⟩)) := List.getElem?_set_self (by rw [hS.lp]; exact htn)
            have c1 : w2.cell? ⟨pb, t, none⟩ = some .nilIface := by rw [hS2.fp.cell, List.getElem?_map, HP.out]; rfl
            have c2 : w2.cell? ⟨hb, t, none⟩ = some (.bool hh) := by rw [hS2.fh.cell, List.getElem?_map, HH.out]; rfl
            have f1 := hS2.fp.frozen t
            have f2 := hS2.fh.frozen t
            have hne : pb ≠ hb := Blk.ne hS2.fp hS2.fh (by decide)
            have hne2 := hne.symm
            have HF1 := Lib.hid hfin
            have HG1 := Lib.hid hgo
            have hhe2 := HH.out
            clear hK2 hS2 hI2 hfin hgo hpl hhl hR hB hS hcx h6 h7 cp ch hhe2
            cases hh
            · rw [progI_A]
              have HF2 := HF1.out
              rw [progI_A] at HF2
              have HF3 := Lib.hid HF2
              clear HF2 HF1
              go_wp2_with fail
              go_meet
              exact ⟨by first | rfl | rw [ht], _, _, _, _, _, HF3.out, HG1.out⟩
            · rw [progI_R]
              have HF2 := HF1.out
              rw [progI_R] at HF2
              have HF3 := Lib.hid HF2
              clear HF2 HF1
              go_wp2_with fail
              go_meet
              exact ⟨by first | rfl | rw [ht], _, _, _, _, _, HF3.out, HG1.out⟩
          · go_wp2_with fail
            go_meet
            exact ⟨by first | rfl | rw [ht], pl, hl, r, bb, x, hS, HP.out⟩
        case rest =>
          clear gn en cp ch hS hcx HP HH p hh pl hl
          obtain ⟨rfl, pl, hl, r, bb, x, hS, hp⟩ := hcut
          obtain ⟨o, hI⟩ := hS.inv
          have HI := Lib.hid hI
          have HP := Lib.hid hp
          clear hI hp
          obtain ⟨hany, hae⟩ : ∃ y, hl.any id = y := ⟨_, rfl⟩
          have hsm := fun W' hW' => some_ok hb n hl W' hW' hS.lh (by omega)
          rw [hae] at hsm
          have HA := Lib.hid hae
          clear hae
          go_upto_region 18 with fail
          go_cut [108] (fun s108 wx => s108 = .bool false ∧ HSt W wx W.heap.size b g pb hb n u10 pl hl ws q)
          case first =>
            cases hany
            · obtain ⟨s, bs, y, hsn, hPs, hws⟩ := HI.out.works (HF_any HA.out) (PF_at HP.out)
              obtain ⟨rs, hps⟩ : ∃ rs, pl[s]? = some (some (rs, bs, y)) := by
                unfold PF at hPs
                split at hPs
                · rename_i r' b' x' h'; injection hPs with e; injection e with e1 e2; subst e1 e2; exact ⟨_, h'⟩
                · cases hPs
              have hes := (HI.out.step hPs).1
              have hwk := fun W' (hK : KO W W' W.heap.size 1 n b g (1 + 6 * n) ws pl) hPB => works_ok pb n W' hK hPB hS.lp (by omega) hps ⟨hws, hes⟩
              have HS := Lib.hid hS
              go_wp2_with (first | (go_at_call 18; refine (hsm _ HS.out.fh).mono ?_; rintro e w' ⟨rfl, rfl⟩) | (go_at_call 19; refine (hwk _ HS.out.ko HS.out.fp).mono ?_; rintro e w' ⟨rfl, hB⟩))
              go_meet
              exact ⟨rfl, HS.out.step hB⟩
            · go_wp2_with (first | (go_at_call 18; refine (hsm _ hS.fh).mono ?_; rintro e w' ⟨rfl, rfl⟩))
              go_meet
              exact ⟨rfl, hS⟩
          case rest =>
            clear hsm hS
            obtain ⟨rfl, hS⟩ := hcut
            obtain ⟨v0, hv0⟩ : ∃ v0, ws.getD 0 0 = v0 := ⟨_, rfl⟩
            have hlen : 1 ≤ ws.length := by rw [HI.out.len]; omega
            have hld := fun W' (h' : HS0 W W' W.heap.size b g pb hb n u10 pl hl ws q) => h'.load hlen hv0
            have HV0 := Lib.hid hv0
            have HS := Lib.hid hS.toHS0
            have hstep := Lib.hid (HI.out.step (PF_at HP.out))
            clear hv0 hS
            go_wp2_with fail
            refine (hld _ HS.out).mono ?_
            rintro e w2 ⟨rfl, hS2⟩
            clear hld HS
            have cp : w2.cell? ⟨pb, t, none⟩ = some (progI bb r) := by rw [hS2.fp.cell, List.getElem?_map, HP.out]; rfl
            have hsat := Lib.hid (hS2.ko.sat HP.out)
            cases bb
            · rw [progI_A] at cp
              obtain ⟨⟨x', ws', wt, ee⟩, hu⟩ : ∃ u, u = stp false 1 n x ws := ⟨_, rfl⟩
              have hst := hS2.onP HP.out (astep' r W.heap.size b g (1 + 6 * n) 1 n x ws w2 hsat.out) rfl
              have hok := hstep.out
              rw [← hu] at hst hok
              obtain ⟨k1, k2, _, k4⟩ := hok
              dsimp only at k1 k2 k4 hst
              subst k1
              have hl2 : 1 ≤ ws'.length := by
                cases e : x'.ended
                · obtain ⟨o2, h2⟩ := k2 e; rw [h2.len]; omega
                · obtain ⟨_, _, _, h2⟩ := k4 e (by first | rfl | trivial); rw [h2.len]; omega
              obtain ⟨v1, hv1⟩ : ∃ v1, ws'.getD 0 0 = v1 := ⟨_, rfl⟩
              have hld2 := fun W' (h' : HS0 W W' W.heap.size b g pb hb n u10 (pl.set t (some (r, false, x'))) hl ws' q) => h'.load hl2 hv1
              rw [hv1, HV0.out] at k2 k4
              have K2 := Lib.hid k2
              have K4 := Lib.hid k4
              have z1 := nil_Step_Acquire r
              have z2 := method_Step_Acquire r
              have z3 := nil_Done_Acquire r
              have z4 := method_Done_Acquire r
              have z5 := assert_A r
              clear hv1 k2 k4 hu hsat
              go_wp2_with fail
              refine hst.mono ?_
              rintro e w3 ⟨rfl, hS3⟩
              clear hst hS2 cp
              go_wp2_with fail
              refine (hld2 _ hS3).mono ?_
              rintro e w4 ⟨rfl, hS4⟩
              clear hld2 hS3
              have hset : (pl.set t (some (r, false, x')))[t]? = some (some (r, false, x')) := List.getElem?_set_self (by have := hS4.lp; rw [List.length_set] at this; omega)
              have htl : t < pl.length := by have := hS4.lp; rw [List.length_set] at this; omega
              have cp : w4.cell? ⟨pb, t, none⟩ = some (progI false r) := by rw [hS4.fp.cell, List.getElem?_map, hset]; rfl
              rw [progI_A] at cp
              have HSET := Lib.hid hset
              have hql := HQL.out
              by_cases hch : v1 = v0
              · subst hch
                rw [if_neg (by rintro ⟨_, h⟩; exact h rfl)] at K2
                rw [if_neg (by simp)] at K4
                have HS5 := Lib.hid hS4
                clear hS4 hset
                go_wp2_with fail
                (have hdn := adone r W.heap.size x' w4 (HS5.out.ko.sat HSET.out).s.run; have fz := HS5.out.fp.frozen t; have hlen5 : (q).length ≤ k + 1 := (by first | (rw [List.length_append]; simp; omega) | omega); cases hend : x'.ended; (focus (rw [hend] at hdn; have HEND := Lib.hid hend; clear hend; (refine hdn.mono ?_); rintro e w6 ⟨rfl, rfl⟩; go_wp2_with fail; go_roundg (xs.length - (k + 1)); (case measure => omega); (case rel => (obtain ⟨o2, h2⟩ := K2.out HEND.out; exact ⟨k + 1, _, _, _, _, rfl, by go_num, by omega, ⟨HS5.out, o2, by rw [PF_put pl htl]; exact h2⟩, hlen5⟩)))); (focus (obtain ⟨hf, q2, hq2, hI2⟩ := K4.out hend (by first | rfl | trivial); rw [hend] at hdn; have HEND := Lib.hid hend; clear hend; have hcl := HS5.out.clear t; rw [List.set_set] at hcl; obtain ⟨gq, oq, cq, hvq, hc1, hc2, hc3, ⟨cur, hcur⟩, hp1, hp2⟩ := QAt.pop (show QAt W w4 u10 (t :: q2) from hq2 ▸ HS5.out.fq); have hpn : gq ≠ pb := Blk.ne hcur HS5.out.fp (by decide); have hpm := hpn.symm; subst hvq; have hpp := QAt.pop (show QAt W _ _ (t :: q2) from hq2 ▸ hcl.fq); obtain ⟨gq2, oq2, cq2, hvq2, _, _, _, _, hr1, hr2⟩ := hpp; injection hvq2 with ev1 ev2 ev3; injection ev1 with ev1; injection ev1 with ev1 ev4 _; subst ev1 ev3 ev4; have HF2 := Lib.hid hf; have hsm := fun W' hW' => some_ok hb n hl W' hW' HS5.out.lh (by omega); rw [any_HF HF2.out] at hsm; have HI2 := Lib.hid hI2; have HR1 := Lib.hid hr1; have HR2 := Lib.hid hr2; have HCL := Lib.hid hcl; have hq2l : q2.length ≤ k + 1 := (by have := congrArg List.length hq2; simp at this hlen5; omega); have HQ2 := Lib.hid hq2; have chh := HS5.out.fh.cell t; have fhh := HS5.out.fh.frozen t; have hbp : hb ≠ pb := Blk.ne HS5.out.fh HS5.out.fp (by decide); have hpb := hbp.symm; have hth : t < hl.length := (by rw [HS5.out.lh]; exact htn); (rw [List.getElem?_map, List.getElem?_eq_getElem hth, Option.map_some] at chh); clear hf hI2 hr1 hr2 hcl hp1 hp2 hq2 hcur; (refine hdn.mono ?_); rintro e w6 ⟨rfl, rfl⟩; by_cases hcq : cq = 1; (focus (subst hcq; obtain rfl : q2 = [] := (by cases q2; rfl; (simp at hc1)); go_wp2_with (go_at_call 18; refine (hsm _ HCL.out.fh).mono ?_; rintro e w7 ⟨rfl, rfl⟩); go_roundg (xs.length - (k + 1)); (case measure => omega); (case rel => exact ⟨k + 1, _, _, _, _, rfl, by go_num, by omega, ⟨HCL.out.takes t (HR1.out (by trivial)), some t, by rw [PF_clear pl htl, HF_set hl hth]; exact HI2.out⟩, by first | exact hq2l | simp⟩))); (focus (go_wp2_with (go_at_call 18; refine (hsm _ HCL.out.fh).mono ?_; rintro e w7 ⟨rfl, rfl⟩); go_roundg (xs.length - (k + 1)); (case measure => omega); (case rel => exact ⟨k + 1, _, _, _, _, rfl, by go_num, by omega, ⟨HCL.out.takes t (HR2.out), some t, by rw [PF_clear pl htl, HF_set hl hth]; exact HI2.out⟩, by first | exact hq2l | simp⟩))))))
              · have e1 : (v1 != v0) = true := by simpa using hch
                rw [if_pos ⟨by first | rfl | trivial, hch⟩] at K2
                rw [if_pos hch] at K4
                have HS4 := Lib.hid hS4
                clear hS4 hset hch
                go_wp2_with (at_builtin; refine wpList_append_q (W := W) _ rfl _ _ rfl rfl rfl (HS4.out.fq.below (by (repeat' (first | (with_reducible exact Below.refl _ _) | (with_reducible assumption) | (with_reducible refine Below.alloc ?_ ?_ _) | (with_reducible refine Below.drew ?_) | (with_reducible refine below_drewN ?_ _) | (with_reducible refine Below.setCell ?_ ?_ _) | (with_reducible refine Below.trans ?_ (Below.mono (by assumption) ?_)) | (first | go_size | (with_reducible exact Below.size (by assumption)) | (with_reducible exact Nat.le_trans (Below.size (by assumption)) (Below.size (by assumption))) | (refine Nat.le_trans (Below.size (by assumption)) ?_; go_size)))))) (by have := HS4.out.ko.below.size; simp; omega) t (by omega) _ rfl (by go_cell) ?_; intro v5 w5 hq5 hc5; have hS5 := (HS4.out.step0 (by (repeat' (first | (with_reducible exact Below.refl _ _) | (with_reducible assumption) | (with_reducible refine Below.alloc ?_ ?_ _) | (with_reducible refine Below.drew ?_) | (with_reducible refine below_drewN ?_ _) | (with_reducible refine Below.setCell ?_ ?_ _) | (with_reducible refine Below.trans ?_ (Below.mono (by assumption) ?_)) | (first | go_size | (with_reducible exact Below.size (by assumption)) | (with_reducible exact Nat.le_trans (Below.size (by assumption)) (Below.size (by assumption))) | (refine Nat.le_trans (Below.size (by assumption)) ?_; go_size)))))).grown hq5 hc5; have cp5 : w5.cell? ⟨pb, t, none⟩ = some (progI false r) := (by rw [hS5.fp.cell, List.getElem?_map, HSET.out]; rfl); rw [progI_A] at cp5; have HS5 := Lib.hid hS5; clear hS5 hq5 hc5 cp)
                (have hdn := adone r W.heap.size x' w5 (HS5.out.ko.sat HSET.out).s.run; have fz := HS5.out.fp.frozen t; have hlen5 : ((q ++ [t])).length ≤ k + 1 := (by first | (rw [List.length_append]; simp; omega) | omega); cases hend : x'.ended; (focus (rw [hend] at hdn; have HEND := Lib.hid hend; clear hend; (refine hdn.mono ?_); rintro e w6 ⟨rfl, rfl⟩; go_wp2_with fail; go_roundg (xs.length - (k + 1)); (case measure => omega); (case rel => (obtain ⟨o2, h2⟩ := K2.out HEND.out; exact ⟨k + 1, _, _, _, _, rfl, by go_num, by omega, ⟨HS5.out, o2, by rw [PF_put pl htl]; exact h2⟩, hlen5⟩)))); (focus (obtain ⟨hf, q2, hq2, hI2⟩ := K4.out hend (by first | rfl | trivial); rw [hend] at hdn; have HEND := Lib.hid hend; clear hend; have hcl := HS5.out.clear t; rw [List.set_set] at hcl; obtain ⟨gq, oq, cq, hvq, hc1, hc2, hc3, ⟨cur, hcur⟩, hp1, hp2⟩ := QAt.pop (show QAt W w5 v5 (t :: q2) from hq2 ▸ HS5.out.fq); have hpn : gq ≠ pb := Blk.ne hcur HS5.out.fp (by decide); have hpm := hpn.symm; subst hvq; have hpp := QAt.pop (show QAt W _ _ (t :: q2) from hq2 ▸ hcl.fq); obtain ⟨gq2, oq2, cq2, hvq2, _, _, _, _, hr1, hr2⟩ := hpp; injection hvq2 with ev1 ev2 ev3; injection ev1 with ev1; injection ev1 with ev1 ev4 _; subst ev1 ev3 ev4; have HF2 := Lib.hid hf; have hsm := fun W' hW' => some_ok hb n hl W' hW' HS5.out.lh (by omega); rw [any_HF HF2.out] at hsm; have HI2 := Lib.hid hI2; have HR1 := Lib.hid hr1; have HR2 := Lib.hid hr2; have HCL := Lib.hid hcl; have hq2l : q2.length ≤ k + 1 := (by have := congrArg List.length hq2; simp at this hlen5; omega); have HQ2 := Lib.hid hq2; have chh := HS5.out.fh.cell t; have fhh := HS5.out.fh.frozen t; have hbp : hb ≠ pb := Blk.ne HS5.out.fh HS5.out.fp (by decide); have hpb := hbp.symm; have hth : t < hl.length := (by rw [HS5.out.lh]; exact htn); (rw [List.getElem?_map, List.getElem?_eq_getElem hth, Option.map_some] at chh); clear hf hI2 hr1 hr2 hcl hp1 hp2 hq2 hcur; (refine hdn.mono ?_); rintro e w6 ⟨rfl, rfl⟩; by_cases hcq : cq = 1; (focus (subst hcq; obtain rfl : q2 = [] := (by cases q2; rfl; (simp at hc1)); go_wp2_with (go_at_call 18; refine (hsm _ HCL.out.fh).mono ?_; rintro e w7 ⟨rfl, rfl⟩); go_roundg (xs.length - (k + 1)); (case measure => omega); (case rel => exact ⟨k + 1, _, _, _, _, rfl, by go_num, by omega, ⟨HCL.out.takes t (HR1.out (by trivial)), some t, by rw [PF_clear pl htl, HF_set hl hth]; exact HI2.out⟩, by first | exact hq2l | simp⟩))); (focus (go_wp2_with (go_at_call 18; refine (hsm _ HCL.out.fh).mono ?_; rintro e w7 ⟨rfl, rfl⟩); go_roundg (xs.length - (k + 1)); (case measure => omega); (case rel => exact ⟨k + 1, _, _, _, _, rfl, by go_num, by omega, ⟨HCL.out.takes t (HR2.out), some t, by rw [PF_clear pl htl, HF_set hl hth]; exact HI2.out⟩, by first | exact hq2l | simp⟩))))))
            · rw [progI_R] at cp
              obtain ⟨⟨x', ws', wt, ee⟩, hu⟩ : ∃ u, u = stp true 1 n x ws := ⟨_, rfl⟩
              have hst := hS2.onP HP.out (rstep' r W.heap.size b g (1 + 6 * n) 1 n x ws w2 hsat.out) rfl
              have hok := hstep.out
              rw [← hu] at hst hok
              obtain ⟨k1, k2, k3, _⟩ := hok
              dsimp only at k1 k2 k3 hst
              subst k1
              have hl2 : 1 ≤ ws'.length := by
                cases e : x'.ended
                · obtain ⟨o2, h2⟩ := k2 e; rw [h2.len]; omega
                · obtain ⟨o2, h2⟩ := k3 e (by first | rfl | trivial); rw [h2.len]; omega
              obtain ⟨v1, hv1⟩ : ∃ v1, ws'.getD 0 0 = v1 := ⟨_, rfl⟩
              have hld2 := fun W' (h' : HS0 W W' W.heap.size b g pb hb n u10 (pl.set t (some (r, true, x'))) hl ws' q) => h'.load hl2 hv1
              have K2 := Lib.hid k2
              have K3 := Lib.hid k3
              have z1 := nil_Step_Release r
              have z2 := method_Step_Release r
              have z3 := nil_Done_Release r
              have z4 := method_Done_Release r
              have z5 := assert_R r
              clear hv1 k2 k3 hu hsat
              go_wp2_with fail
              refine hst.mono ?_
              rintro e w3 ⟨rfl, hS3⟩
              clear hst hS2 cp
              go_wp2_with fail
              refine (hld2 _ hS3).mono ?_
              rintro e w4 ⟨rfl, hS4⟩
              clear hld2 hS3
              have hset : (pl.set t (some (r, true, x')))[t]? = some (some (r, true, x')) := List.getElem?_set_self (by have := hS4.lp; rw [List.length_set] at this; omega)
              have cp : w4.cell? ⟨pb, t, none⟩ = some (progI true r) := by rw [hS4.fp.cell, List.getElem?_map, hset]; rfl
              rw [progI_R] at cp
              have hdn := rdone r W.heap.size x' w4 (hS4.ko.sat hset).s.run
              have fz := hS4.fp.frozen t
              have HSET := Lib.hid hset
              have HS4 := Lib.hid hS4
              clear hset hS4
              cases hend : x'.ended
              · rw [hend] at hdn
                have HEND := Lib.hid hend
                clear hend
                go_wp2_with (go_at_call 83; refine hdn.mono ?_; rintro e w5 ⟨rfl, rfl⟩)
                go_roundg (xs.length - (k + 1))
                case measure => omega
                case rel =>
                  obtain ⟨o2, h2⟩ := K2.out HEND.out
                  rw [if_neg (by rintro ⟨h, _⟩; cases h)] at h2
                  exact ⟨k + 1, _, _, _, _, rfl, by go_num, by omega, ⟨HS4.out, o2, by rw [PF_put pl (by have := HS4.out.lp; rw [List.length_set] at this; omega)]; exact h2⟩, by have := HQL.out; omega⟩
              · rw [hend] at hdn
                have HEND := Lib.hid hend
                clear hend
                go_wp2_with (go_at_call 83; refine hdn.mono ?_; rintro e w5 ⟨rfl, rfl⟩)
                go_roundg (xs.length - (k + 1))
                case measure => omega
                case rel =>
                  obtain ⟨o2, h2⟩ := K3.out HEND.out (by first | rfl | trivial)
                  have hc := HS4.out.clear t
                  rw [List.set_set] at hc
                  exact ⟨k + 1, _, _, _, _, rfl, by go_num, by omega, ⟨hc, o2, by rw [PF_clear pl (by have := HS4.out.lp; rw [List.length_set] at this; omega)]; exact h2⟩, by have := HQL.out; omega⟩
      · obtain rfl : k = xs.length := by omega
        have hend := hS.ko.below
        clear hS hql
        go_wp2_with (go_at_call 8; refine (known_ok _).mono ?_; rintro e w' ⟨rfl, hkb⟩)
        go_ret
        exact ⟨rfl, by (repeat' (first | (with_reducible exact Below.refl _ _) | (with_reducible assumption) | (with_reducible refine Below.alloc ?_ ?_ _) | (with_reducible refine Below.drew ?_) | (with_reducible refine below_drewN ?_ _) | (with_reducible refine Below.setCell ?_ ?_ _) | (with_reducible refine Below.trans ?_ (Below.mono (by assumption) ?_)) | (first | go_size | (with_reducible exact Below.size (by assumption)) | (with_reducible exact Nat.le_trans (Below.size (by assumption)) (Below.size (by assumption))) | (refine Nat.le_trans (Below.size (by assumption)) ?_; go_size))))⟩
end McsHolds
end Go.Proofs.Ytmlhdcpahfgckaa
