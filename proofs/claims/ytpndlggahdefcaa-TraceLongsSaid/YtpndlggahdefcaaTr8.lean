/-
  Contracts of package trace, seventh part: Of.
-/
import Derived.Test.YtpndlggahdefcaaTr6
import Derived.Test.YtpndlggahdefcaaDrawn
import Derived.Lib.SliceRun
namespace Go.Proofs.Ytpndlggahdefcaa
open Go.RowKit
set_option linter.unusedSimpArgs false
set_option linter.unusedVariables false

theorem ddInfo : (Try.prog.info? 47).map (fun i => (i.zero, i.size, i.bytes)) = some (some (Dd.mk 0 0 0 0 0 false false).val, 7, 48) := by kernel_rfl
theorem delp_ok (d : Dd) (t : Int) (cb : Nat) (w : World) (h : w.cell? ⟨cb, 0, none⟩ = some (.int .i64 t)) :
    Calls Try.prog 67 #[.agg d.cells.toArray, .pointer (some ⟨cb, 0, none⟩)] w fun e w' => e = .returned (.bool (d.t != t)) ∧ Below w.heap.size w w' := by
  obtain ⟨t', k, x, b, a, wt, en⟩ := d
  have hlt := World.block_lt_of_cell? _ _ h
  simp only [Dd.cells]
  go_enter Try.func67, Try.ntmps67
  go_wp2_with fail
  go_ret
  exact ⟨rfl, by (repeat' (first | (with_reducible exact Below.refl _ _) | (with_reducible assumption) | (with_reducible refine Below.alloc ?_ ?_ _) | (with_reducible refine Below.drew ?_) | (with_reducible refine below_drewN ?_ _) | (with_reducible refine Below.setCell ?_ ?_ _) | (with_reducible refine Below.trans ?_ (Below.mono (by assumption) ?_)) | (first | go_size | (with_reducible exact Below.size (by assumption)) | (with_reducible exact Nat.le_trans (Below.size (by assumption)) (Below.size (by assumption))) | (refine Nat.le_trans (Below.size (by assumption)) ?_; go_size))))⟩
theorem dds_oneC (l : List Dd) : ∀ v ∈ dds l, v.oneCell' = true := by
  intro v hv
  unfold dds at hv
  rw [List.mem_flatten] at hv
  obtain ⟨r, hr, hv⟩ := hv
  obtain ⟨d, _, rfl⟩ := List.mem_map.1 hr
  exact dd_one d v hv
set_option maxRecDepth 100000 in
set_option maxHeartbeats 1000000 in
theorem clone_ok (A : Option Addr) (l : List Dd) (n c : Nat) (w : World) (hr : Rd (fun b => b < w.heap.size) w A (dds l)) (hl : l.length = n) (hn : n ≤ 1000000) (hA : A = none → c = 0) :
    Calls Try.prog 66 #[.slice A n c] w fun e w' => Below w.heap.size w w' ∧ ∃ v, e = .returned v ∧ w'.ownsRow w.heap.size 47 7 v n (dds l) := by
  subst hl
  obtain ⟨i0, hi0, hz0, hz1, hz2⟩ := info_parts ddInfo
  cases A with
  | none =>
    have h0 : l.length = 0 := by
      cases hl : dds l with
      | nil =>
        have := dds_len l
        rw [hl] at this
        simp at this
        omega
      | cons x r =>
        obtain ⟨_, _, h, _⟩ := hr (by rw [hl]; simp)
        cases h
    obtain rfl := List.eq_nil_of_length_eq_zero h0
    have hc := hA rfl
    subst hc
    have hnil := fun W => Lib.run_eql_slice_nil (P := Try.prog) W 42 47 none 0 0 0 0 Try.underlying42
    simp only [Option.isNone_none] at hnil
    go_enter Try.func66, Try.ntmps66
    go_wp2_with fail
    go_ret
    exact ⟨Below.refl _ _, _, rfl, own_none _ _ _ _⟩
  | some a =>
    clear hA
    have hnil := fun W => Lib.run_eql_slice_nil (P := Try.prog) W 42 47 (some a) l.length c 0 0 Try.underlying42
    simp only [Option.isNone_some] at hnil
    go_enter Try.func66, Try.ntmps66
    go_wp2_with (at_builtin; refine wpList_append_rd _ rfl _ _ _ rfl (w.heap.size) 47 i0 _ 7 48 Try.underlying42 hi0 hz0 hz1 hz2 rfl (by omega) _ 0 [] rfl (own_new _ _ _) (some a) l.length c (dds l) rfl (hr.keep (Ch.of_below ((Below.refl _ _).alloc (Nat.le_refl _) _) (fun _ => False)) (fun _ _ _ e => e)) (fun h => by cases h) (dds_len l) (dds_oneC l) (by unfold maxLen; omega) (by omega) (by simp) ?_)
    intro v w1 hown hch hat
    go_wp2_with fail
    go_ret
    refine ⟨((Below.refl w.heap.size w).alloc (Nat.le_refl _) _).trans (hch.below (fun j _ e => ?_) (by simp)), v, rfl, hown⟩
    simp [Value.ownBlock] at e
    omega
/-- which is the first that is not the thread's -/
theorem find_ok (A : Option Addr) (l : List Dd) (n c cb : Nat) (t : Int) (w : World) (hr : Rd (fun b => b < w.heap.size) w A (dds l)) (hl : l.length = n) (hn : n ≤ 1000000) (ht : w.cell? ⟨cb, 0, none⟩ = some (.int .i64 t)) :
    Calls Try.prog 79 #[.slice A n c, .func (.func 67) #[] #[.pointer (some ⟨cb, 0, none⟩)]] w fun e w' => Below w.heap.size w w' ∧
      ((e = .returned (.int .i64 (-1)) ∧ ∀ d ∈ l, d.t = t) ∨ ∃ k : Nat, e = .returned (.int .i64 k) ∧ k < l.length ∧ (∀ d ∈ l.take k, d.t = t) ∧ ∃ d, l[k]? = some d ∧ d.t ≠ t) := by
  subst hl
  have hlt := World.block_lt_of_cell? _ _ ht
  go_enter Try.func79, Try.ntmps79
  go_wp2_with fail
  go_loopw [8] (fun v wr => ∃ k : Nat, k ≤ l.length ∧ v = .int .i64 k ∧ (∀ d ∈ l.take k, d.t = t) ∧ Below w.heap.size w wr) (fun v _ => l.length - (intOf v).toNat)
  case atStart => exact ⟨0, Nat.zero_le _, rfl, fun d hd => by simp at hd, Below.refl _ _⟩
  case round =>
    obtain ⟨k, hk, rfl, hall, hb⟩ := hrel
    have HALL := Lib.hid hall
    clear hall
    by_cases hlt2 : k < l.length
    · obtain ⟨dd, hd⟩ : ∃ d, l[k]? = some d := ⟨_, List.getElem?_eq_getElem hlt2⟩
      obtain ⟨b0, o, rfl, _, hbl, hcell⟩ := rd_dd (hr.keep (Ch.of_below hb (fun _ => False)) (fun _ _ _ e => e)) hd
      have hcb := (Ch.of_below hb (fun _ => False)).keeps ht (fun e => e)
      have hcall := delp_ok dd t cb wr hcb
      have HTK := Lib.hid (take_snoc l k dd hd)
      have HD := Lib.hid hd
      have i1 : (0 : Int) ≤ k := Int.natCast_nonneg _
      have i2 : (k : Int) < l.length := by omega
      obtain ⟨t', kd, x, bb, aa, wt, en⟩ := dd
      have c0 := hcell 0 _ rfl
      have c1 := hcell 1 _ rfl
      have c2 := hcell 2 _ rfl
      have c3 := hcell 3 _ rfl
      have c4 := hcell 4 _ rfl
      have c5 := hcell 5 _ rfl
      have c6 := hcell 6 _ rfl
      simp only [Nat.add_zero] at c0
      simp only [Dd.cells] at hcall
      clear hcell hr hd
      by_cases hq : t' = t
      · have e1 : (t' != t) = false := by rw [bne_eq_false_iff_eq]; exact hq
        rw [e1] at hcall
        have HQ := Lib.hid hq
        clear hq e1
        go_wp2_with fail
        refine hcall.mono ?_
        rintro e w5 ⟨rfl, hb5⟩
        go_wp2_with fail
        go_roundw
        case rel => exact ⟨k + 1, by omega, by go_num, (by rw [HTK.out]; intro d hd; rcases List.mem_append.1 hd with h | h; exact HALL.out d h; obtain rfl := List.mem_singleton.1 h; exact HQ.out), hb.trans (hb5.mono hb.size)⟩
        case measure => simp [intOf]; omega
      · have e1 : (t' != t) = true := by rw [bne_iff_ne]; exact hq
        rw [e1] at hcall
        have HQ := Lib.hid (show ∃ d : Dd, l[k]? = some d ∧ d.t ≠ t from ⟨_, HD.out, hq⟩)
        clear hq e1
        go_wp2_with fail
        refine hcall.mono ?_
        rintro e w5 ⟨rfl, hb5⟩
        go_wp2_with fail
        go_ret
        exact ⟨hb.trans (hb5.mono hb.size), .inr ⟨k, rfl, by omega, HALL.out, HQ.out⟩⟩
    · obtain rfl : k = l.length := by omega
      go_wp2_with fail
      go_ret
      exact ⟨hb, .inl ⟨rfl, fun d hd => HALL.out d (by rw [List.take_length]; exact hd)⟩⟩
theorem wl_storeD {P : Program} {ops : Array Oper} {rest : List Oper} {Q : Exit → Act → World → Prop} {a : Act} {w : World} {dst : Option Tmp} {type : TypeId} {pos : String} {after : Array Edge} (ty : TypeId) (x y : Operand) (b o : Nat) (cells : Array Value) (hx : a.eval x = .pointer (some ⟨b, o, none⟩)) (hy : a.eval y = .agg cells)
    (ht : w.there b o cells.size) (hi : (P.info? ty).map (·.size) = some cells.size) (h1 : cells.all (·.oneCell') = true) (h : wpList P ops Q rest (a.put dst undef) (w.setCells b o cells.toList)) :
    wpList P ops Q ({ dst := dst, op := .store ty x y, type := type, pos := pos, after := after, guard := none } :: rest) a w :=
  wpList_store_mid rfl ty x y rfl b o cells hx hy ht hi h1 h
theorem run_clear {P : Program} (w : World) (t e : TypeId) (ht : P.underlying t = some (.slice e)) (z : Value) (k : Nat) (hv : ∀ w, (zeroValue e).run P w = .ok z w) (hzk : z.cells.size = k) (hk : 0 < k) (hz1 : ∀ v ∈ z.cells.toList, v.oneCell' = true) (b o n c : Nat) (hn : 0 < n)
    (hth : w.there b o (n * k)) : ∃ Z : List Value, Z.length = n * k ∧ ∀ ty, (Builtin.clear_ #[t] ty #[.slice (some ⟨b, o, none⟩) n c]).run P w = .ok (.tuple #[]) (w.setCells b o Z) := by
  have hl : (Builtin.zeroCells z.cells n).toList.length = n * k := by simp [Builtin.zeroCells, hzk]
  have h1 : ∀ v ∈ (Builtin.zeroCells z.cells n).toList, v.oneCell' = true := by
    intro v hv'
    simp only [Builtin.zeroCells, Array.toList_map, List.mem_map] at hv'
    obtain ⟨i, _, rfl⟩ := hv'
    have hm : i % z.cells.size < z.cells.size := Nat.mod_lt _ (by omega)
    rw [getElem!_pos z.cells _ hm]
    exact hz1 _ (by simp)
  have hst := run_storeCells_cells (P := P) b o (Builtin.zeroCells z.cells n).toList 0 w (fun j hj => by simpa using (hth j (by omega)).1) (fun j hj => by simpa using (hth j (by omega)).2) h1
  simp only [Nat.add_zero] at hst
  generalize hZ : (Builtin.zeroCells z.cells n).toList = Z at *
  obtain ⟨m, rfl⟩ : ∃ m, n = m + 1 := ⟨n - 1, by omega⟩
  exact ⟨Z, hl, fun ty => by simp [Builtin.clear_, run_underlying ht, hv, hZ, hst]⟩
/-- a row of things out of which some are deleted: i are kept, j are looked at -/
def keepB (t : Int) (d : Dd) : Bool := decide (d.t = t)
structure DelSt (W : World) (g cap cb : Nat) (t : Int) (l : List Dd) (i j : Nat) (cur : List Dd) (wr : World) : Prop where
  len : cur.length = l.length
  pre : cur.take i = (l.take j).filter (keepB t)
  post : cur.drop j = l.drop j
  lt : i < j
  le : j ≤ l.length
  lc : l.length ≤ cap
  blk : ∃ cs, cs.length = cap * 7 ∧ Blk wr g 47 cs
  rng : ∀ (q : Nat) (d : Dd), cur[q]? = some d → wr.rangeAt g (q * 7) d.cells
  cb : Blk wr cb 3 [.int .i64 t]
  ch : Ch (fun j => j = g) W wr
theorem blk_setCells {g : Nat} {T : TypeId} : ∀ (vs : List Value) (o : Nat) (w : World) (cs : List Value), Blk w g T cs → ∃ cs', cs'.length = cs.length ∧ Blk (w.setCells g o vs) g T cs'
  | [], _, _, cs, h => ⟨cs, rfl, h⟩
  | v :: r, o, w, cs, h => by
    obtain ⟨cs', h1, h2⟩ := blk_setCells r (o + 1) _ _ (h.set o v)
    exact ⟨cs', by simpa using h1, h2⟩
theorem DelSt.next {W : World} {g cap cb : Nat} {t : Int} {l : List Dd} {i j : Nat} {cur : List Dd} {wr w' : World} (h : DelSt W g cap cb t l i j cur wr) (hb : Below wr.heap.size wr w') : DelSt W g cap cb t l i j cur w' := by
  obtain ⟨cs, h1, h2⟩ := h.blk
  have hc := Ch.of_below hb (fun _ => False)
  exact ⟨h.len, h.pre, h.post, h.lt, h.le, h.lc, ⟨cs, h1, h2.keep hc (fun e => e)⟩, fun q d hq => range_keep (h.rng q d hq) hc (fun e => e), h.cb.keep hc (fun e => e), h.ch.trans (Ch.of_below hb _) (fun _ _ e => e)⟩
theorem DelSt.skip {W : World} {g cap cb : Nat} {t : Int} {l : List Dd} {i j : Nat} {cur : List Dd} {wr : World} (h : DelSt W g cap cb t l i j cur wr) {d : Dd} (hd : l[j]? = some d) (hq : d.t ≠ t) : DelSt W g cap cb t l i (j + 1) cur wr := by
  have hj := (List.getElem?_eq_some_iff.1 hd).1
  refine ⟨h.len, ?_, ?_, by have := h.lt; omega, hj, h.lc, h.blk, h.rng, h.cb, h.ch⟩
  · rw [h.pre, take_snoc l j d hd, List.filter_append]
    have : keepB t d = false := decide_eq_false hq
    simp [this]
  · rw [← List.drop_drop, h.post, List.drop_drop]
theorem DelSt.keep {W : World} {g cap cb : Nat} {t : Int} {l : List Dd} {i j : Nat} {cur : List Dd} {wr : World} (h : DelSt W g cap cb t l i j cur wr) {d : Dd} (hd : l[j]? = some d) (hq : d.t = t) :
    wr.there g (i * 7) d.cells.length ∧ DelSt W g cap cb t l (i + 1) (j + 1) (cur.set i d) (wr.setCells g (i * 7) d.cells) := by
  have hj := (List.getElem?_eq_some_iff.1 hd).1
  have hlt := h.lt
  obtain ⟨cs, h1, h2⟩ := h.blk
  have hlc := h.lc
  have hth : wr.there g (i * 7) d.cells.length := there_blk h2 _ _ (by show i * 7 + 7 ≤ _; omega)
  have hci : i < cur.length := by rw [h.len]; omega
  obtain ⟨cs', h3, h4⟩ := blk_setCells d.cells (i * 7) wr cs h2
  have hne : ¬ cb = g := fun e => by subst e; exact Blk.ne h.cb h2 (by decide) rfl
  refine ⟨hth, ⟨by rw [List.length_set, h.len], ?_, ?_, by omega, hj, h.lc, ⟨cs', by rw [h3, h1], h4⟩, fun q d' hq' => ?_, h.cb.keep (setCells_ch g _ _ _) hne, h.ch.trans (setCells_ch g _ _ _) (fun _ _ e => e)⟩⟩
  · rw [take_snoc l j d hd, List.filter_append, List.take_succ_eq_append_getElem (by rw [List.length_set]; exact hci), List.take_set_of_le (by omega), h.pre]
    have : keepB t d = true := decide_eq_true hq
    simp [this]
  · rw [List.drop_set_of_lt (by omega), ← List.drop_drop, h.post, List.drop_drop]
  · by_cases e : q = i
    · subst e
      rw [List.getElem?_set, if_pos rfl, if_pos hci] at hq'
      injection hq' with hq'
      subst hq'
      exact World.rangeAt_setCells_same wr g _ _ hth
    · rw [List.getElem?_set_ne (fun z => e z.symm)] at hq'
      refine World.rangeAt_setCells_apart (h.rng q d' hq') g _ _ (.inr ?_)
      show q * 7 + 7 ≤ i * 7 ∨ i * 7 + 7 ≤ q * 7
      omega
theorem DelSt.at {W : World} {g cap cb : Nat} {t : Int} {l : List Dd} {i j : Nat} {cur : List Dd} {wr : World} (h : DelSt W g cap cb t l i j cur wr) {d : Dd} (hd : l[j]? = some d) : wr.rangeAt g (j * 7) d.cells := by
  refine h.rng j d ?_
  have := congrArg (fun r => r[0]?) h.post
  simpa [hd] using this
theorem delst_zero {w : World} {base g cap cb k : Nat} {t : Int} {l : List Dd} (hown : w.ownsRow base 47 7 (.slice (some ⟨g, 0, none⟩) l.length cap) l.length (dds l)) (hcb : Blk w cb 3 [.int .i64 t]) (hk : k < l.length) (h1 : ∀ d ∈ l.take k, d.t = t) (h2 : ∃ d, l[k]? = some d ∧ d.t ≠ t) :
    DelSt w g cap cb t l k (k + 1) l w ∧ base ≤ g ∧ l.length ≤ cap ∧ cap ≤ 9223372036854775807 := by
  rcases hown.2 with ⟨h3, _⟩ | ⟨g', cap', cur, h3, hg, hblk, hcap, hmx, hcs, htk⟩
  · cases h3
  · injection h3 with h3 _ h4
    injection h3 with h3
    injection h3 with h3
    subst h3 h4
    obtain ⟨d, hd, hq⟩ := h2
    have hB : Blk w g 47 cur.toList := by unfold Blk; simpa using hblk
    refine ⟨⟨rfl, ?_, rfl, by omega, hk, hcap, ⟨cur.toList, by rw [Array.length_toList, hcs], hB⟩, fun q d' hq' => ?_, hcb, Ch.refl _ _⟩, hg, hcap, by unfold maxLen at hmx; omega⟩
    · rw [take_snoc l k d hd, List.filter_append]
      have e1 : keepB t d = false := decide_eq_false hq
      have e2 : (l.take k).filter (keepB t) = l.take k := List.filter_eq_self.2 (fun x hx => decide_eq_true (h1 x hx))
      rw [e2]
      simp [e1]
    · intro x v hv
      have hx : x < 7 := (List.getElem?_eq_some_iff.1 hv).1
      have h5 := dds_at hq' hx
      rw [hv, ← htk, List.getElem?_take] at h5
      rw [hB.cell]
      split at h5
      · exact h5
      · cases h5
theorem zeroDd (w : World) : (zeroValue 47).run Try.prog w = .ok (Dd.mk 0 0 0 0 0 false false).val w := by kernel_rfl
theorem dd0_one : ∀ v ∈ (Dd.mk 0 0 0 0 0 false false).val.cells.toList, v.oneCell' = true := by
  intro v hv
  exact dd_one _ v hv
set_option maxHeartbeats 1000000 in
set_option maxRecDepth 100000 in
theorem delf_ok (v : Value) (base : Nat) (l : List Dd) (cb : Nat) (t : Int) (w : World) (hown : w.ownsRow base 47 7 v l.length (dds l)) (hn : l.length ≤ 1000000) (ht : Blk w cb 3 [.int .i64 t]) :
    Calls Try.prog 65 #[v, .func (.func 67) #[] #[.pointer (some ⟨cb, 0, none⟩)]] w fun e w' => ∃ A c, e = .returned (.slice A (l.filter (keepB t)).length c) ∧ (l.filter (keepB t)).length ≤ c ∧ c ≤ 9223372036854775807 ∧
      Rd (fun b => base ≤ b) w' A (dds (l.filter (keepB t))) ∧ Ch (fun j => base ≤ j) w w' := by
  obtain ⟨A, c, rfl, hc, hnone⟩ := own_slice hown
  have hcap : l.length ≤ c ∧ c ≤ 9223372036854775807 := by
    rcases hown.2 with ⟨h1, h2⟩ | ⟨g, cap, cur, h1, _, _, h2, h3, _⟩
    · injection h1 with _ h3 h4
      omega
    · injection h1 with _ _ h4
      unfold maxLen at h3
      omega
  have hrd := Rd.of_own hown
  have hf := find_ok A l l.length c cb t w (hrd.mono (fun b hb _ => hb)) rfl hn (ht.cell 0)
  obtain ⟨FL, hFL⟩ : ∃ FL, l.filter (keepB t) = FL := ⟨_, rfl⟩
  rw [hFL]
  have HFL := Lib.hid hFL
  have HOWN := Lib.hid hown
  have HT := Lib.hid ht
  have HRD := Lib.hid hrd
  clear hown hc hnone ht hrd hFL
  go_enter Try.func65, Try.ntmps65
  go_wp2_with fail
  refine hf.mono ?_
  rintro e w1 ⟨hb1, hcase⟩
  clear hf
  rcases hcase with ⟨rfl, hall⟩ | ⟨k, rfl, hk, hall, hex⟩
  · have he : l.filter (keepB t) = l := List.filter_eq_self.2 (fun x hx => decide_eq_true (hall x hx))
    rw [HFL.out] at he
    subst he
    clear hall
    go_wp2_with fail
    go_ret
    exact ⟨A, c, rfl, hcap.1, hcap.2, (HRD.out.mono (fun b _ h => h.1)).keep (Ch.of_below hb1 (fun _ => False)) (fun _ _ _ e => e), (Ch.of_below hb1 _)⟩
  · obtain ⟨g, rfl⟩ : ∃ g, A = some ⟨g, 0, none⟩ := by
      rcases HOWN.out.2 with ⟨h1, h2⟩ | ⟨g, cap, cur, h1, _⟩
      · omega
      · injection h1 with h1
        exact ⟨g, h1⟩
    obtain ⟨hD, hgb, hlc, hcm⟩ := delst_zero HOWN.out HT.out hk hall hex
    have hD1 := hD.next hb1
    have k1 : ((k : Int) == -1) = false := by rw [beq_eq_false_iff_ne]; omega
    clear hall hex hD hb1
    go_wp2_with fail
    go_loopw [5, 6] (fun v5 v6 wr => ∃ (i j : Nat) (cur : List Dd), v5 = .int .i64 i ∧ v6 = .int .i64 j ∧ DelSt w g c cb t l i j cur wr) (fun _ v _ => l.length - (intOf v).toNat)
    case atStart => exact ⟨k, k + 1, l, rfl, by go_num, hD1⟩
    case round =>
      clear hD1
      obtain ⟨i, j, cur, rfl, rfl, hS⟩ := hrel
      have hij := hS.lt
      have hjl := hS.le
      by_cases hlt : j < l.length
      · obtain ⟨dd, hd⟩ : ∃ d, l[j]? = some d := ⟨_, List.getElem?_eq_getElem hlt⟩
        have hcell := hS.at hd
        have HD := Lib.hid hd
        obtain ⟨t', kd, x, bb, aa, wt, en⟩ := dd
        have c0 := hcell 0 _ rfl
        have c1 := hcell 1 _ rfl
        have c2 := hcell 2 _ rfl
        have c3 := hcell 3 _ rfl
        have c4 := hcell 4 _ rfl
        have c5 := hcell 5 _ rfl
        have c6 := hcell 6 _ rfl
        simp only [Nat.add_zero] at c0
        have i1 : (0 : Int) ≤ j := Int.natCast_nonneg _
        have i2 : (j : Int) < l.length := by omega
        clear hcell hd
        go_upto_region 8 with fail
        have hbA : Below wr.heap.size wr (wr.alloc (.cells [.int .i64 t', .int .i64 kd, .int .i64 x, .int .u64 bb, .int .u64 aa, .bool wt, .bool en].toArray 47)) := (Below.refl _ _).alloc (Nat.le_refl _) _
        have hSA := hS.next hbA
        have hDA := Blk.new wr 47 [.int .i64 t', .int .i64 kd, .int .i64 x, .int .u64 bb, .int .u64 aa, .bool wt, .bool en]
        generalize wr.alloc (.cells [.int .i64 t', .int .i64 kd, .int .i64 x, .int .u64 bb, .int .u64 aa, .bool wt, .bool en].toArray 47) = wa at *
        generalize wr.heap.size = DB at *
        have d0 := hDA.cell 0
        have d1 := hDA.cell 1
        have d2 := hDA.cell 2
        have d3 := hDA.cell 3
        have d4 := hDA.cell 4
        have d5 := hDA.cell 5
        have d6 := hDA.cell 6
        simp only [List.getElem?_cons_succ, List.getElem?_cons_zero] at d0 d1 d2 d3 d4 d5 d6
        have hcall := delp_ok ⟨t', kd, x, bb, aa, wt, en⟩ t cb wa (hSA.cb.cell 0)
        simp only [Dd.cells] at hcall
        clear hS hbA c0 c1 c2 c3 c4 c5 c6
        by_cases hq : t' = t
        · have e1 : (t' != t) = false := by rw [bne_eq_false_iff_eq]; exact hq
          rw [e1] at hcall
          have HQ := Lib.hid hq
          clear hq e1
          go_wp2_with fail
          refine hcall.mono ?_
          rintro e w5 ⟨rfl, hb5⟩
          have hS5 := hSA.next hb5
          have hD5 := hDA.keep (Ch.of_below hb5 (fun _ => False)) (fun e => e)
          obtain ⟨hth, hS6⟩ := hS5.keep HD.out HQ.out
          have HTH := Lib.hid hth
          have d0 := hD5.cell 0
          have d1 := hD5.cell 1
          have d2 := hD5.cell 2
          have d3 := hD5.cell 3
          have d4 := hD5.cell 4
          have d5 := hD5.cell 5
          have d6 := hD5.cell 6
          simp only [List.getElem?_cons_succ, List.getElem?_cons_zero] at d0 d1 d2 d3 d4 d5 d6
          have j1 : (0 : Int) ≤ i := Int.natCast_nonneg _
          have j2 : (i : Int) < l.length := by omega
          have HS6 := Lib.hid hS6
          clear hSA hDA hcall hS5 hD5 hth hS6
          go_wp2_with (refine wl_storeD 47 _ _ g (i * 7) (#[.int .i64 t', .int .i64 kd, .int .i64 x, .int .u64 bb, .int .u64 aa, .bool wt, .bool en]) ?_ ?_ ?_ ?_ ?_ ?_; (focus rfl); (focus rfl); (focus (exact HTH.out)); (focus kernel_rfl); (focus (simp [Value.oneCell'])))
          go_roundw
          case rel => exact ⟨i + 1, j + 1, _, by go_num, by go_num, HS6.out⟩
          case measure => simp [intOf]; omega
        · have e1 : (t' != t) = true := by rw [bne_iff_ne]; exact hq
          rw [e1] at hcall
          have HQ := Lib.hid hq
          clear hq e1
          go_wp2_with fail
          refine hcall.mono ?_
          rintro e w5 ⟨rfl, hb5⟩
          have hS5 := (hSA.next hb5).skip HD.out HQ.out
          clear hSA hDA hcall d0 d1 d2 d3 d4 d5 d6
          go_wp2_with fail
          go_roundw
          case rel => exact ⟨i, j + 1, _, rfl, by go_num, hS5⟩
          case measure => simp [intOf]; omega
      · obtain rfl : j = l.length := by omega
        have hpre := hS.pre
        have hcl := hS.len
        rw [List.take_length, HFL.out] at hpre
        have hlen : FL.length = i := by rw [← hpre, List.length_take, hcl]; omega
        obtain ⟨cs, hb1, hb2⟩ := hS.blk
        have hth := there_blk hb2 (i * 7) ((l.length - i) * 7) (by omega)
        have hrng := hS.rng
        have hch := hS.ch
        have HALL := Lib.hid (And.intro hpre (And.intro hlen (And.intro hrng (And.intro hch hcl))))
        have HTH := Lib.hid hth
        have hgl := hb2.lt
        clear hpre hcl hrng hch hS hb1 hb2 hth hlen
        have j1 : (0 : Int) ≤ i := Int.natCast_nonneg _
        have j2 : (i : Int) < l.length := by omega
        obtain ⟨Z, hZ, hclr⟩ := run_clear (P := Try.prog) wr 42 47 Try.underlying42 (Dd.mk 0 0 0 0 0 false false).val 7 zeroDd rfl (by omega) dd0_one g (i * 7) (l.length - i) (c - i) (by omega) HTH.out
        have HZ := Lib.hid hZ
        clear hZ
        go_wp2_with fail
        go_ret
        obtain ⟨a1, a2, a3, a4, a5⟩ := HALL.out
        refine ⟨some ⟨g, 0, none⟩, c, by rw [a2]; rfl, by omega, hcm, ?_, (a4.trans (setCells_ch g _ _ _) (fun _ _ e => e)).mono (fun b _ e => by subst e; exact hgb)⟩
        intro hne
        refine ⟨g, 0, rfl, hgb, by have := (setCells_ch g Z (i * 7) wr).size; omega, fun q v hv => ?_⟩
        have hq : q < i * 7 := by
          have := (List.getElem?_eq_some_iff.1 hv).1
          rw [dds_len, a2] at this
          exact this
        have hi : q / 7 < i := by omega
        obtain ⟨d, hd⟩ : ∃ d, cur[q / 7]? = some d := ⟨_, List.getElem?_eq_getElem (by omega)⟩
        have hd2 : FL[q / 7]? = some d := by rw [← a1, List.getElem?_take, if_pos hi, hd]
        have hm : q % 7 < 7 := Nat.mod_lt _ (by omega)
        have h5 := dds_at hd2 hm
        rw [show q / 7 * 7 + q % 7 = q by omega, hv] at h5
        have h6 := World.rangeAt_setCells_apart (a3 (q / 7) d hd) g (i * 7) Z (.inr (.inl (by show q / 7 * 7 + 7 ≤ i * 7; omega)))
        have h7 := h6 (q % 7) v h5.symm
        rw [show q / 7 * 7 + q % 7 = q by omega] at h7
        rw [Nat.zero_add]
        exact h7
def OfPost (w : World) (l : List Dd) (t : Int) (e : Ending) (w' : World) : Prop :=
  Below w.heap.size w w' ∧
  ((wrongF l ≠ 0 ∧ e = .returned (.tuple #[.slice none 0 0, .int .i64 (wrongF l)])) ∨
   (wrongF l = 0 ∧ (t < 0 ∨ 64 ≤ t) ∧ e = .returned (.tuple #[.slice none 0 0, .int .i64 2])) ∨
   (wrongF l = 0 ∧ 0 ≤ t ∧ t < 64 ∧ ∃ A c, (l.filter (keepB t)).length ≤ c ∧ c ≤ 9223372036854775807 ∧ Rd (fun b => w.heap.size ≤ b) w' A (dds (l.filter (keepB t))) ∧ e = .returned (.tuple #[.slice A (l.filter (keepB t)).length c, .int .i64 0])))
set_option maxHeartbeats 1000000 in
theorem of_ok (B : Option Addr) (l : List Dd) (t : Int) (m d : Nat) (w : World)
    (hr : Rd (fun b => b < w.heap.size) w B (dds l)) (hl : l.length = m) (hm : m ≤ 9223372036854775806) (hB : B = none → d = 0) :
    Calls Try.prog 57 #[.slice B m d, .int .i64 t] w (OfPost w l t) := by
  have hal : Below w.heap.size w (w.alloc (.cells #[.int .i64 t] 3)) := (Below.refl _ _).alloc (Nat.le_refl _) _
  have hr0 := hr.keep (Ch.of_below hal (fun _ => False)) (fun _ _ _ e => e)
  have hwr := wrong_ok B l m d _ hr0 hl hm
  have hcb : Blk (w.alloc (.cells #[.int .i64 t] 3)) w.heap.size 3 [.int .i64 t] := Blk.new w 3 [.int .i64 t]
  subst hl
  obtain ⟨wa, hwa⟩ : ∃ wa, wa = w.alloc (.cells #[.int .i64 t] 3) := ⟨_, rfl⟩
  rw [← hwa] at hal hr0 hwr hcb
  by_cases hE : wrongF l = 0
  · have H0 := Lib.hid hE
    rw [hE] at hwr
    have hlong : l.length ≤ 100000 := by
      unfold wrongF at hE
      split at hE
      · cases hE
      · omega
    clear hE
    go_enter Try.func57, Try.ntmps57
    go_upto_region 1 with fail
    rw [← hwa]
    clear hwa
    go_upto_region 4 with (go_at_call 50; refine hwr.mono ?_; rintro e w1 ⟨rfl, hb1⟩)
    have hcb1 := hcb.keep (Ch.of_below hb1 (fun _ => False)) (fun e => e)
    have hr1 := hr0.keep (Ch.of_below hb1 (fun _ => False)) (fun b _ _ e => e)
    have hB1 : Below w.heap.size w w1 := hal.trans (hb1.mono hal.size)
    have c0 := hcb1.cell 0
    simp only [List.getElem?_cons_zero] at c0
    clear hcb hr0 hb1 hal hwr
    by_cases h1 : 0 ≤ t ∧ t < 64
    · have d1 : decide (t < 0) = false := decide_eq_false (by omega)
      have d2 : decide (t ≥ 64) = false := decide_eq_false (by omega)
      have hcl := clone_ok B l l.length d w1 (hr1.mono (fun b hb _ => hb)) rfl (by omega) hB
      have HCB := Lib.hid hcb1
      clear hcb1 hr1 hr
      obtain ⟨FL, hFL⟩ : ∃ FL, l.filter (keepB t) = FL := ⟨_, rfl⟩
      have HFL := Lib.hid hFL
      clear hFL
      go_wp2_with (first | (go_at_call 66; refine hcl.mono ?_; rintro e w2 ⟨hb2, v, rfl, hown⟩; have hcb2 := HCB.out.keep (Ch.of_below hb2 (fun _ => False)) (fun e => e)) | (go_at_call 65; refine (delf_ok v _ l w.heap.size t w2 hown (by omega) hcb2).mono ?_; rw [HFL.out]; rintro e w3 ⟨A, c, rfl, q1, q2, q3, q4⟩))
      go_ret2
      have hB3 := hB1.trans ((hb2.trans (q4.below (fun j _ e => e) hb2.size)).mono hB1.size)
      exact ⟨hB3, .inr (.inr ⟨H0.out, h1.1, h1.2, A, c, by rw [HFL.out]; exact q1, q2, by rw [HFL.out]; exact q3.mono (fun b _ e => Nat.le_trans hB1.size e), by rw [HFL.out]; rfl⟩)⟩
    · have H1 := Lib.hid (show t < 0 ∨ 64 ≤ t by omega)
      rcases H1.out with h | h
      · have d1 : decide (t < 0) = true := decide_eq_true h
        clear h h1 hcb1 hr1
        go_wp2_with fail
        go_ret2
        exact ⟨hB1, .inr (.inl ⟨H0.out, H1.out, rfl⟩)⟩
      · have d1 : decide (t < 0) = false := decide_eq_false (by omega)
        have d2 : decide (t ≥ 64) = true := decide_eq_true h
        clear h h1 hcb1 hr1
        go_wp2_with fail
        go_ret2
        exact ⟨hB1, .inr (.inl ⟨H0.out, H1.out, rfl⟩)⟩
  · have H0 := Lib.hid hE
    obtain ⟨E, hEE⟩ : ∃ E, wrongF l = E := ⟨_, rfl⟩
    rw [hEE] at hwr hE
    have d1 : (E != 0) = true := by rw [bne_iff_ne]; exact hE
    have HE := Lib.hid hEE
    clear hE hEE
    go_enter Try.func57, Try.ntmps57
    go_upto_region 1 with fail
    rw [← hwa]
    clear hwa
    go_wp2_with (go_at_call 50; refine hwr.mono ?_; rintro e w1 ⟨rfl, hb1⟩)
    go_ret2
    exact ⟨hal.trans (hb1.mono hal.size), .inl ⟨H0.out, by rw [HE.out]; rfl⟩⟩
end Go.Proofs.Ytpndlggahdefcaa
