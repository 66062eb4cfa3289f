/-
  Layer 12's helpers: lists of instructions, programs of them.
-/
import Derived.Test.YtmbofohdjdipdaaTh15
import Derived.Test.YtmbofohdjdipdaaTMade
namespace Go.Proofs.Ytmbofohdjdipdaa
open Go.RowKit

theorem instr_ok (k r x v : Int) (w : World) :
    Calls Try.prog 25 #[.int .i64 k, .int .i64 r, .int .i64 x, .int .u64 v] w fun e w' => e = .returned (insA ⟨k, r, x, v⟩) ∧ Below w.heap.size w w' := by
  go_enter Try.func25, Try.ntmps25
  go_wp2
  refine bodyPost_ret (v := insA ⟨k, r, x, v⟩) (by simp [results, go_sem]) rfl ?_
  exact ⟨rfl, by (repeat' (first | (with_reducible exact Below.refl _ _) | (with_reducible assumption) | (with_reducible refine Below.alloc ?_ ?_ _) | (with_reducible refine Below.drew ?_) | (with_reducible refine below_drewN ?_ _) | (with_reducible refine Below.setCell ?_ ?_ _) | (with_reducible refine Below.trans ?_ (Below.mono (by assumption) ?_)) | (first | go_size | (with_reducible exact Below.size (by assumption)) | (with_reducible exact Nat.le_trans (Below.size (by assumption)) (Below.size (by assumption))) | (refine Nat.le_trans (Below.size (by assumption)) ?_; go_size))))⟩
def addsL : List Ins := [⟨1, 1, 0, 0⟩, ⟨7, 1, 0, 1⟩, ⟨2, 1, 0, 0⟩, ⟨9, 1, 0, 0⟩]
def awaitsL : List Ins := [⟨5, 0, 0, 2⟩, ⟨6, 0, 0, 9⟩]
/-- a slice of instructions -/
structure SlR where
  A : Option Addr
  n : Nat
  c : Nat
  l : List Ins
@[reducible] def SlR.v (s : SlR) : Value := .slice s.A s.n s.c
structure SlOk (w : World) (s : SlR) : Prop where
  rd : Rd (fun b => b < w.heap.size) w s.A (insVs s.l)
  len : s.l.length = s.n
  cap : s.n ≤ s.c
  capm : s.c ≤ 9223372036854775807
  wf : ∀ x ∈ s.l, insWf x
theorem SlOk.below {w w' : World} {s : SlR} {B : Nat} (h : SlOk w s) (hb : Below B w w') (hB : w.heap.size ≤ B) : SlOk w' s := by
  have hb' : Below w.heap.size w w' := hb.mono hB
  exact ⟨((h.rd.keep (Ch.of_below hb' (fun _ => False)) (fun _ _ _ e => e)).mono (fun b _ hl => Nat.lt_of_lt_of_le hl hb'.size)), h.len, h.cap, h.capm, h.wf⟩
/-- a slice of instructions in a block of its own -/
structure LitAt (w : World) (s : SlR) : Prop where
  b : ∃ b, s.A = some ⟨b, 0, none⟩ ∧ Blk w b 70 (insVs s.l)
  len : s.l.length = s.n
  cap : s.n ≤ s.c
  capm : s.c ≤ 9223372036854775807
  wf : ∀ x ∈ s.l, insWf x
theorem LitAt.ok {w : World} {s : SlR} (h : LitAt w s) : SlOk w s := by
  obtain ⟨b, hA, hb⟩ := h.b
  exact ⟨by rw [hA]; exact Rd.of_blk hb (List.prefix_refl _) hb.lt, h.len, h.cap, h.capm, h.wf⟩
theorem LitAt.keep {F : Nat → Prop} {w w' : World} {s : SlR} (h : LitAt w s) (hc : Ch F w w') (hF : Mut w F) : LitAt w' s := by
  obtain ⟨b, hA, hb⟩ := h.b
  exact ⟨⟨b, hA, hb.keep hc (hF.not hb (.inl rfl))⟩, h.len, h.cap, h.capm, h.wf⟩
theorem LitAt.below {w w' : World} {s : SlR} (h : LitAt w s) (hb : Below w.heap.size w w') : LitAt w' s := h.keep (Ch.of_below hb (fun _ => False)) (Mut.no w)
def LitP (w : World) (l : List Ins) (e : Ending) (w' : World) : Prop := ∃ s : SlR, e = .returned s.v ∧ s.l = l ∧ s.n = l.length ∧ LitAt w' s ∧ Below w.heap.size w w'
theorem adds_ok (w : World) : Calls Try.prog 23 #[] w (LitP w addsL) := by
  have wf : ∀ x ∈ addsL, insWf x := by decide
  have fin : ∀ W, Below w.heap.size w W → LitP w addsL (.returned (.slice (some ⟨W.heap.size, 0, none⟩) 4 4)) (W.alloc (.cells (insVs addsL).toArray 70)) := fun W hb =>
    ⟨⟨some ⟨W.heap.size, 0, none⟩, 4, 4, addsL⟩, rfl, rfl, rfl, ⟨⟨_, rfl, Blk.new W _ _⟩, rfl, Nat.le_refl _, (by show (4 : Nat) ≤ 9223372036854775807; decide), wf⟩, by (repeat' (first | (with_reducible exact Below.refl _ _) | (with_reducible assumption) | (with_reducible refine Below.alloc ?_ ?_ _) | (with_reducible refine Below.drew ?_) | (with_reducible refine below_drewN ?_ _) | (with_reducible refine Below.setCell ?_ ?_ _) | (with_reducible refine Below.trans ?_ (Below.mono (by assumption) ?_)) | (first | go_size | (with_reducible exact Below.size (by assumption)) | (with_reducible exact Nat.le_trans (Below.size (by assumption)) (Below.size (by assumption))) | (refine Nat.le_trans (Below.size (by assumption)) ?_; go_size))))⟩
  have HF := Lib.hid fin
  clear fin wf
  go_enter Try.func23, Try.ntmps23
  go_wp2_with (go_at_call 25; refine (instr_ok _ _ _ _ _).mono ?_; rintro e w1 ⟨rfl, hb⟩; have hbz := hb.size)
  go_ret
  exact HF.out _ (by (repeat' (first | (with_reducible exact Below.refl _ _) | (with_reducible assumption) | (with_reducible refine Below.alloc ?_ ?_ _) | (with_reducible refine Below.drew ?_) | (with_reducible refine below_drewN ?_ _) | (with_reducible refine Below.setCell ?_ ?_ _) | (with_reducible refine Below.trans ?_ (Below.mono (by assumption) ?_)) | (first | go_size | (with_reducible exact Below.size (by assumption)) | (with_reducible exact Nat.le_trans (Below.size (by assumption)) (Below.size (by assumption))) | (refine Nat.le_trans (Below.size (by assumption)) ?_; go_size)))) <;> omega)
theorem awaits_ok (w : World) : Calls Try.prog 55 #[] w (LitP w awaitsL) := by
  have wf : ∀ x ∈ awaitsL, insWf x := by decide
  have fin : ∀ W, Below w.heap.size w W → LitP w awaitsL (.returned (.slice (some ⟨W.heap.size, 0, none⟩) 2 2)) (W.alloc (.cells (insVs awaitsL).toArray 70)) := fun W hb =>
    ⟨⟨some ⟨W.heap.size, 0, none⟩, 2, 2, awaitsL⟩, rfl, rfl, rfl, ⟨⟨_, rfl, Blk.new W _ _⟩, rfl, Nat.le_refl _, (by show (2 : Nat) ≤ 9223372036854775807; decide), wf⟩, by (repeat' (first | (with_reducible exact Below.refl _ _) | (with_reducible assumption) | (with_reducible refine Below.alloc ?_ ?_ _) | (with_reducible refine Below.drew ?_) | (with_reducible refine below_drewN ?_ _) | (with_reducible refine Below.setCell ?_ ?_ _) | (with_reducible refine Below.trans ?_ (Below.mono (by assumption) ?_)) | (first | go_size | (with_reducible exact Below.size (by assumption)) | (with_reducible exact Nat.le_trans (Below.size (by assumption)) (Below.size (by assumption))) | (refine Nat.le_trans (Below.size (by assumption)) ?_; go_size))))⟩
  have HF := Lib.hid fin
  clear fin wf
  go_enter Try.func55, Try.ntmps55
  go_wp2_with (go_at_call 25; refine (instr_ok _ _ _ _ _).mono ?_; rintro e w1 ⟨rfl, hb⟩; have hbz := hb.size)
  go_ret
  exact HF.out _ (by (repeat' (first | (with_reducible exact Below.refl _ _) | (with_reducible assumption) | (with_reducible refine Below.alloc ?_ ?_ _) | (with_reducible refine Below.drew ?_) | (with_reducible refine below_drewN ?_ _) | (with_reducible refine Below.setCell ?_ ?_ _) | (with_reducible refine Below.trans ?_ (Below.mono (by assumption) ?_)) | (first | go_size | (with_reducible exact Below.size (by assumption)) | (with_reducible exact Nat.le_trans (Below.size (by assumption)) (Below.size (by assumption))) | (refine Nat.le_trans (Below.size (by assumption)) ?_; go_size)))) <;> omega)
theorem bad_ok (s : SlR) (w : World) (h : SlOk w s) (hn : s.n ≤ 1000000) (hb : codeOkB s.l = false) :
    Calls Try.prog 56 #[s.v] w fun e w' => e = .returned (.bool true) ∧ Below w.heap.size w w' := by
  have hc := newcode_bad s.A s.l s.n s.c w h.rd h.len hn hb
  unfold SlR.v
  go_enter Try.func56, Try.ntmps56
  go_wp2_with (go_at_call 26; refine hc.mono ?_; rintro e w1 ⟨rfl, hb1⟩)
  go_ret
  exact ⟨rfl, hb1⟩
/-- a list of new codes that grows -/
structure PrS (W wr : World) (cs : List Cd) (qs : List CdR) (v : Value) : Prop where
  below : Below W.heap.size W wr
  own : wr.ownsRow W.heap.size 62 1 v qs.length (qs.map (fun q => codeI q.r))
  eq : qs.map (·.c) = cs
  cd : ∀ q ∈ qs, CdAt wr q.r q.i q.cap q.c
  lo : ∀ q ∈ qs, W.heap.size ≤ q.r
theorem PrS.next {W wr w' : World} {cs : List Cd} {qs : List CdR} {v : Value} (h : PrS W wr cs qs v) (hb : Below wr.heap.size wr w') : PrS W w' cs qs v :=
  ⟨h.below.trans (hb.mono h.below.size), own_keep h.own (Ch.of_below hb (fun _ => False)) (fun _ _ _ e => e), h.eq, fun q hq => (h.cd q hq).below hb, h.lo⟩
theorem PrS.add {W wr w8 : World} {cs : List Cd} {qs : List CdR} {v v8 : Value} {q : CdR} (h : PrS W wr cs qs v) (hn : CdAt wr q.r q.i q.cap q.c) (hnl : W.heap.size ≤ q.r) (T : TypeId) (xs : Array Value)
    (h8 : Ch (fun k => v.ownBlock = some k) (wr.alloc (.cells xs T)) w8) (hown : w8.ownsRow W.heap.size 62 1 v8 (qs.length + 1) (qs.map (fun q => codeI q.r) ++ [codeI q.r])) : PrS W w8 (cs ++ [q.c]) (qs ++ [q]) v8 := by
  have hb7 : Below wr.heap.size wr (wr.alloc (.cells xs T)) := (Below.refl _ _).alloc (Nat.le_refl _) _
  have h7 := h.next hb7
  have hF7 : ∀ k, v.ownBlock = some k → k < (wr.alloc (.cells xs T)).heap.size → ∃ t cs, Blk (wr.alloc (.cells xs T)) k t cs ∧ t ≠ 70 := fun k hk _ => by
    obtain ⟨cs', hB⟩ := own_ty h7.own hk
    exact ⟨_, _, hB, by decide⟩
  have cdAll : ∀ p : CdR, CdAt (wr.alloc (.cells xs T)) p.r p.i p.cap p.c → CdAt w8 p.r p.i p.cap p.c := fun p hp => hp.keepT h8 (fun e => by
    obtain ⟨cs', hB⟩ := own_ty h7.own e
    exact Blk.ne hB hp.b (by decide) rfl) hF7
  refine ⟨h7.below.trans (h8.below (fun j _ e => ownB_ge h7.own e) h7.below.size), by simpa using hown, by simp [h.eq], fun p hp => ?_, fun p hp => ?_⟩
  · rcases List.mem_append.1 hp with hp | hp
    · exact cdAll p (h7.cd p hp)
    · rw [List.mem_singleton] at hp
      subst hp
      exact cdAll p (hn.below hb7)
  · rcases List.mem_append.1 hp with hp | hp
    · exact h.lo p hp
    · rw [List.mem_singleton] at hp
      subst hp
      exact hnl
/-- the program of some lists of instructions -/
def pgOf : List (List Ins) → Pg
  | [l] => .code (newCd l)
  | ls => .chain (ls.map newCd)
theorem pgOf_shares (ls : List (List Ins)) : (pgOf ls).shares = [] := by
  unfold pgOf
  split <;> rfl
def ProgP (w : World) (x : Pg) (e : Ending) (w' : World) : Prop := Below w.heap.size w w' ∧ ∃ d fs, e = .returned d.v ∧ ProgAt w' d fs x ∧ ∀ k ∈ fs, w.heap.size ≤ k
theorem nextQ_fresh (ps : List CdR) (h : ∀ p ∈ ps, p.c.ended = false) : nextQ ps = ps := by
  match ps with
  | [] => rfl
  | [_] => rfl
  | q :: p :: t => rw [nextQ_two, if_neg (by rw [h q (by simp)]; simp)]
theorem take_map_snocS {α β : Type} (f : α → β) (l : List α) (k : Nat) (x : α) (h : l[k]? = some x) : (l.take (k + 1)).map f = (l.take k).map f ++ [f x] := by
  rw [List.take_add_one, h]
  simp
set_option maxRecDepth 100000 in
set_option maxHeartbeats 4000000 in
theorem program_ok (A : Option Addr) (ss : List SlR) (n c : Nat) (w : World) (hr : Rd (fun b => b < w.heap.size) w A (ss.map SlR.v)) (hl : ss.length = n) (h1 : 1 ≤ n) (hn : n ≤ 1000) (hs : ∀ s ∈ ss, SlOk w s) (hok : ∀ s ∈ ss, codeOkB s.l = true) :
    Calls Try.prog 22 #[.slice A n c] w (ProgP w (pgOf (ss.map (·.l)))) := by
  subst hl
  obtain ⟨i0, hi0, hz0, hz1, hz2⟩ := info_parts progInfo
  have HS := Lib.hid hs
  have HOK := Lib.hid hok
  clear hs hok
  go_enter Try.func22, Try.ntmps22
  go_wp2_with fail
  go_loopw [3, 12] (fun u3 v12 wr => ∃ (k : Nat) (qs : List CdR) (v3 : Value), v3 = u3 ∧ k ≤ ss.length ∧ v12 = .int .i64 k ∧ PrS w wr ((ss.take k).map (fun s => newCd s.l)) qs v3) (fun _ v12 _ => ss.length - (intOf v12).toNat)
  case atStart => exact ⟨0, [], _, rfl, Nat.zero_le _, rfl, ⟨Below.refl _ _, own_none _ _ _ _, rfl, (fun q hq => by cases hq), (fun q hq => by cases hq)⟩⟩
  case round =>
    obtain ⟨k, qs, v3, rfl, hk, rfl, hS⟩ := hrel
    have hbz := hS.below.size
    have hql : qs.length = k := by
      have := congrArg List.length hS.eq
      rw [List.length_map, List.length_map, List.length_take] at this
      omega
    have HQL := Lib.hid hql
    clear hql
    by_cases hlt : k < ss.length
    · obtain ⟨s, hs⟩ : ∃ s, ss[k]? = some s := ⟨_, List.getElem?_eq_getElem hlt⟩
      obtain ⟨b0, o0, rfl, hb0, hcell⟩ := (hr.keep (Ch.of_below hS.below (fun _ => False)) (fun _ _ _ e => e)).at (j := k) (by simpa using hlt)
      have hse : ss[k] = s := (List.getElem?_eq_some_iff.1 hs).2
      simp only [List.getElem_map, hse] at hcell
      have hso := (HS.out s (List.mem_of_getElem? hs)).below hS.below (Nat.le_refl _)
      have hnc := newcode_ok s.A s.l s.n s.c wr hso.rd hso.len hso.cap hso.wf (HOK.out s (List.mem_of_getElem? hs))
      have HTK := Lib.hid (take_map_snocS (fun s : SlR => newCd s.l) ss k s hs)
      have i1 : (0 : Int) ≤ k := Int.natCast_nonneg _
      have i2 : (k : Int) < ss.length := by omega
      unfold SlR.v at hcell
      clear hs hse hso
      go_upto_region 8 with (go_at_call 26; refine hnc.mono ?_; rintro e w2 ⟨cr, ci, cc, rfl, hcd, hcl, hil, hb2⟩)
      have hS2 := hS.next hb2
      have hzb := hb2.size
      have hown7 : (w2.alloc (.cells #[codeI cr] 62)).ownsRow w.heap.size 62 1 v3 qs.length (qs.map (fun q => codeI q.r)) := own_keep hS2.own ((Ch.refl (fun _ => False) _).alloc _) (fun _ _ _ e => e)
      go_wp2_with (at_builtin; refine wpList_append_rd _ rfl _ _ _ rfl w.heap.size 62 i0 _ 1 16 Try.underlying140 hi0 hz0 hz1 hz2 rfl (by omega) v3 qs.length (qs.map (fun q => codeI q.r)) rfl hown7 (some ⟨w2.heap.size, 0, none⟩) 1 1 [codeI cr] rfl (Rd.of_blk (G := fun _ => True) (Blk.new _ _ _) (List.prefix_refl _) trivial) (fun h => by cases h) rfl (by simp [Value.oneCell']) (by unfold maxLen; have := HQL.out; omega) (by have := HQL.out; omega) (by simp only [World.size_alloc]; omega) ?_)
      intro v8 w8 hown8 hch8 _
      obtain ⟨A8, c8, rfl, _, _⟩ := own_slice hown8
      have hS9 := hS2.add (q := ⟨cr, ci, cc, newCd s.l⟩) hcd (by show w.heap.size ≤ cr; omega) _ _ hch8 hown8
      rw [← HTK.out] at hS9
      clear hown8 hch8 hS hS2 hown7 HTK
      go_wp2_with fail
      go_roundw
      case rel => exact ⟨k + 1, _, _, rfl, by omega, by go_num, hS9⟩
      case measure => simp [intOf]; omega
    · obtain rfl : k = ss.length := by omega
      rw [List.take_length] at hS
      by_cases h1s : ss.length = 1
      · obtain ⟨s, rfl⟩ : ∃ s, ss = [s] := List.length_eq_one_iff.1 h1s
        obtain ⟨q, rfl⟩ : ∃ q, qs = [q] := List.length_eq_one_iff.1 HQL.out
        have hq := hS.cd q (by simp)
        have hqc : q.c = newCd s.l := by simpa using hS.eq
        obtain ⟨g, c2, sp, rfl, _, g2, g3, g4⟩ := own_gen hS.own (by simp)
        have hg0 : wr.cell? ⟨g, 0, none⟩ = some (codeI q.r) := g4.cell 0
        have hP : ProgP w (pgOf ([s].map (·.l))) (.returned (codeI q.r)) wr := ⟨hS.below, codeD q.r, [q.r], rfl, ⟨q.r, q.i, q.cap, rfl, rfl, by rw [← hqc]; exact hq⟩, fun k hk => by rw [List.mem_singleton] at hk; subst hk; exact hS.lo q (by simp)⟩
        have HP := Lib.hid hP
        simp only [List.length_cons, List.length_nil, Nat.zero_add] at hlt h1 hn g2 ⊢
        clear hP hqc h1s
        go_wp2_with fail
        go_ret
        exact HP.out
      · obtain ⟨A2, c2, rfl, hc2, hA2⟩ := own_slice hS.own
        have h2 : 2 ≤ ss.length := by omega
        have hrd := (Rd.of_own hS.own).mono (G' := fun b => b < wr.heap.size) (fun b hb _ => hb)
        have hne : ((ss.length : Int) == 1) = false := by rw [beq_eq_false_iff_ne]; omega
        have hne2 : ((qs.length : Int) == 1) = false := by rw [beq_eq_false_iff_ne, HQL.out]; omega
        have hch := chain_ok A2 qs qs.length c2 wr hrd rfl (by rw [HQL.out]; omega) (by rw [HQL.out]; omega) hS.cd
        have hP : ∀ W', ∀ r' lb off cap ps, Below wr.heap.size wr W' → ChAt W' r' lb off cap (nextQ ps) → ps.map (·.c) = qs.map (·.c) → wr.heap.size ≤ r' → (∀ p ∈ ps, wr.heap.size ≤ p.r) → ProgP w (pgOf (ss.map (·.l))) (.returned (.iface 145 (.pointer (some ⟨r', 0, none⟩)))) W' := fun W' r' lb off cap ps k1 k2 k3 k4 k5 => by
          have hfr : ∀ p ∈ ps, p.c.ended = false := fun p hp => by
            have h1 : p.c ∈ ps.map (·.c) := List.mem_map_of_mem hp
            rw [k3, hS.eq] at h1
            obtain ⟨s, _, e⟩ := List.mem_map.1 h1
            rw [← e]
            rfl
          have hpg : pgOf (ss.map (·.l)) = .chain ((ss.map (·.l)).map newCd) := by
            unfold pgOf
            split
            · rename_i l e
              have := congrArg List.length e
              simp at this
              omega
            · rfl
          rw [hpg]
          rw [nextQ_fresh ps hfr] at k2
          have hpl : ps.length = ss.length := by
            have := congrArg List.length k3
            simp only [List.length_map] at this
            rw [this, HQL.out]
          refine ⟨hS.below.trans (k1.mono hbz), chainD r', _, rfl, ⟨r', lb, off, cap, ps, rfl, rfl, k2, ?_, nextQ_fresh ps hfr, by omega⟩, fun k hk => ?_⟩
          · rw [k3, hS.eq, List.map_map]
            rfl
          · rcases List.mem_cons.1 hk with rfl | hk
            · omega
            · obtain ⟨p, hp, rfl⟩ := List.mem_map.1 hk
              have := k5 p hp
              omega
        have HP := Lib.hid hP
        clear hP h1s h1 hrd
        go_wp2_with (go_at_call 30; refine hch.mono ?_; rintro e w3 ⟨k1, r', lb, off, cap, ps, rfl, k2, k3, k4, k5⟩)
        go_ret
        exact HP.out _ _ _ _ _ _ k1 k2 k3 k4 k5
end Go.Proofs.Ytmbofohdjdipdaa
