/-
  Contracts of package thread: a code's step, and what else a code answers.
-/
import Derived.Test.YtmbofohdjdipdaaTh2
namespace Go.Proofs.Ytmbofohdjdipdaa
open Go.RowKit

theorem insVs_at : ∀ (l : List Ins) (j : Nat) (x : Ins), l[j]? = some x → ∀ q, q < 4 → (insVs l)[j * 4 + q]? = (insV x)[q]?
  | y :: l, 0, x, h, q, hq => by
    simp only [List.getElem?_cons_zero, Option.some.injEq] at h
    subst h
    rw [show insVs (y :: l) = insV y ++ insVs l from List.flatMap_cons, List.getElem?_append_left (by simp [insV]; omega)]
    simp
  | y :: l, j + 1, x, h, q, hq => by
    rw [List.getElem?_cons_succ] at h
    have := insVs_at l j x h q hq
    rw [show insVs (y :: l) = insV y ++ insVs l from List.flatMap_cons, List.getElem?_append_right (by simp [insV]; omega), ← this]
    congr 1
    simp [insV]
    omega
theorem insVs_len (l : List Ins) : (insVs l).length = l.length * 4 := by
  induction l with
  | nil => rfl
  | cons x l ih => rw [show insVs (x :: l) = insV x ++ insVs l from List.flatMap_cons, List.length_append, ih]; simp [insV]; omega
/-- a code lies at block r, its instructions at block i -/
structure CdAt (w : World) (r i cap : Nat) (c : Cd) : Prop where
  b : CodeB w r i cap c
  il : ∃ sp, Blk w i 70 (insVs c.l ++ sp)
  capl : c.l.length ≤ cap
  capm : cap ≤ 9223372036854775807
  wf : c.Wf
section
variable {w w' : World} {r i cap : Nat} {c : Cd}
theorem CdAt.ir (h : CdAt w r i cap c) : i ≠ r := by
  obtain ⟨sp, hs⟩ := h.il
  exact Blk.ne hs h.b (by decide)
theorem CdAt.keep {F : Nat → Prop} (h : CdAt w r i cap c) (hc : Ch F w w') (hr : ¬ F r) (hi : ¬ F i) : CdAt w' r i cap c := by
  obtain ⟨sp, hs⟩ := h.il
  exact ⟨h.b.keep hc hr, ⟨sp, hs.keep hc hi⟩, h.capl, h.capm, h.wf⟩
theorem CdAt.below (h : CdAt w r i cap c) (hb : Below w.heap.size w w') : CdAt w' r i cap c := h.keep (Ch.of_below hb (fun _ => False)) (fun e => e) (fun e => e)
theorem CdAt.ins (h : CdAt w r i cap c) (he : c.ended = false) : w.cell? ⟨i, c.pc * 4, none⟩ = some (.int .i64 c.cur.k) ∧ w.cell? ⟨i, c.pc * 4 + 1, none⟩ = some (.int .i64 c.cur.r) ∧
    w.cell? ⟨i, c.pc * 4 + 2, none⟩ = some (.int .i64 c.cur.w) ∧ w.cell? ⟨i, c.pc * 4 + 3, none⟩ = some (.int .u64 c.cur.v) := by
  obtain ⟨sp, hs⟩ := h.il
  have hp := h.wf.run he
  have hx : c.l[c.pc]? = some c.cur := by rw [List.getElem?_eq_getElem hp]; simp [Cd.cur, hp]
  have key : ∀ q, q < 4 → w.cell? ⟨i, c.pc * 4 + q, none⟩ = (insV c.cur)[q]? := fun q hq => by
    rw [hs.cell, List.getElem?_append_left (by rw [insVs_len]; omega)]
    exact insVs_at c.l c.pc c.cur hx q hq
  exact ⟨key 0 (by omega), key 1 (by omega), key 2 (by omega), key 3 (by omega)⟩
/-- another state of the same code -/
theorem CdAt.turn {F : Nat → Prop} {c' : Cd} (h : CdAt w r i cap c) (hb : CodeB w' r i cap c') (hl : c'.l = c.l) (hwf : c'.Wf) (hc : Ch F w w') (hi : ¬ F i) : CdAt w' r i cap c' := by
  obtain ⟨sp, hs⟩ := h.il
  exact ⟨hb, ⟨sp, by rw [hl]; exact hs.keep hc hi⟩, by rw [hl]; exact h.capl, h.capm, hwf⟩
end
theorem stC_l (c : Cd) (E B : Int) : (stC c E B).l = c.l := by
  unfold stC
  dsimp only
  split
  · exact doC_l _ _ _ _
  · split <;> exact doC_l _ _ _ _
def StP {σ : Type} (m : Mif σ) (w : World) (r i cap : Nat) (c : Cd) (s : σ) (v : Value) (e : Ending) (w' : World) : Prop :=
  e = .returned v ∧ CdAt w' r i cap c ∧ m.At w' s ∧ Ch (fun k => k = r ∨ m.own k) w w'
section
variable {σ : Type} {m : Mif σ} {w w' : World} {r i cap : Nat} {c : Cd} {s : σ}
theorem CdAt.no (h : CdAt w r i cap c) (hm : m.Ok) (ha : m.At w s) : ¬ m.own r ∧ ¬ m.own i := by
  obtain ⟨sp, hs⟩ := h.il
  exact ⟨hm.not_own ha h.b (by unfold memTy; decide), hm.not_own ha hs (by unfold memTy; decide)⟩
end
structure XAt (w wx : World) (x : Ins) : Prop where
  x0 : wx.cell? ⟨w.heap.size, 0, none⟩ = some (.int .i64 x.k)
  x1 : wx.cell? ⟨w.heap.size, 1, none⟩ = some (.int .i64 x.r)
  x2 : wx.cell? ⟨w.heap.size, 2, none⟩ = some (.int .i64 x.w)
  x3 : wx.cell? ⟨w.heap.size, 3, none⟩ = some (.int .u64 x.v)
  bl : Below w.heap.size w wx
  sz : w.heap.size < wx.heap.size
set_option maxRecDepth 100000 in
set_option maxHeartbeats 1000000 in
theorem cstep_run {σ : Type} (m : Mif σ) (hm : m.Ok) (r i cap : Nat) (c : Cd) (w : World) (s : σ) (h : CdAt w r i cap c) (ha : m.At w s) (he : c.ended = false) :
    Calls Try.prog 31 #[.pointer (some ⟨r, 0, none⟩), m.v] w
      (StP m w r i cap (stC c (m.e s c.cur) (m.b s c.cur)) (m.n s c c.cur) (.tuple #[.bool (doWt c.cur (m.e s c.cur) (m.b s c.cur)), .int .i64 (doEr c.cur (m.e s c.cur))])) := by
  obtain ⟨nr, ni⟩ := h.no hm ha
  obtain ⟨i0, i1, i2, i3⟩ := h.ins he
  have hwf := h.wf
  have hpc := hwf.run he
  have hlo := hwf.lo
  have hcur := hwf.ok _ (hwf.cur he)
  have c0 := h.b.c0
  have c1 := h.b.c1
  have c7 := h.b.c7 hwf.r4
  rw [he] at c7
  have hlt := h.b.lt
  have hir := h.ir
  have hil : i < w.heap.size := World.block_lt_of_cell? _ _ i0
  have no2 : ∀ k, w.heap.size ≤ k → ¬ m.own k := fun k hk ho => by have := hm.lt _ _ _ ha ho; omega
  have HNO := Lib.hid no2
  clear no2
  have hC0 : CMAt m w r i cap c s := ⟨h.b, hwf.r4, ha, nr⟩
  have l0 : ((c.l.length : Int) == 0) = false := by rw [beq_eq_false_iff_ne]; omega
  have p1 : (0 : Int) ≤ c.pc := by omega
  have p2 : (c.pc : Int) < c.l.length := by omega
  have hdo := fun W hW => doi_any m hm r i cap c c.cur W s hW hwf c.l.length hcur.1 hcur.2
  have hcapl := h.capl
  have hcapm := h.capm
  have hpost := stC_wf (c := c) (E := m.e s c.cur) (B := m.b s c.cur) hwf he (hm.bu w s _ _ ha)
  have e1 := doC_l c c.cur (m.e s c.cur) (m.b s c.cur)
  have e2 := doC_pc c c.cur (m.e s c.cur) (m.b s c.cur)
  have e3 := doC_len c c.cur (m.e s c.cur) (m.b s c.cur)
  have hN : doN c c.cur ≤ c.l.length := doN_le hwf he
  obtain ⟨D, hD⟩ : ∃ D, D = stC c (m.e s c.cur) (m.b s c.cur) := ⟨_, rfl⟩
  have hD2 := hD
  rw [← hD] at hpost ⊢
  unfold stC at hD2
  dsimp only at hD2
  generalize doC c c.cur (m.e s c.cur) (m.b s c.cur) = d at *
  generalize doWt c.cur (m.e s c.cur) (m.b s c.cur) = wt at *
  generalize doEr c.cur (m.e s c.cur) = er at *
  generalize doN c c.cur = nx at *
  generalize m.n s c c.cur = s' at *
  generalize c.cur = x at *
  have HD := Lib.hid hD2
  have HQ := Lib.hid (And.intro e1 (And.intro e2 (And.intro e3 hwf.r4)))
  have hE1 := Lib.hid he
  clear hD hD2 e1 e2 e3 he hcur
  go_enter Try.func31, Try.ntmps31
  go_upto_region 5 with (fail)
  go_cut [6] (fun v6 wx => v6 = .pointer (some ⟨w.heap.size, 0, none⟩) ∧ XAt w wx x)
  case first =>
    go_region_with (fail)
    all_goals go_wp2_with fail
    all_goals go_meet
    all_goals exact ⟨rfl, by constructor <;> first | go_cell | (repeat' (first | (with_reducible exact Below.refl _ _) | (with_reducible assumption) | (with_reducible refine Below.alloc ?_ ?_ _) | (with_reducible refine Below.drew ?_) | (with_reducible refine below_drewN ?_ _) | (with_reducible refine Below.setCell ?_ ?_ _) | (with_reducible refine Below.trans ?_ (Below.mono (by assumption) ?_)) | (first | go_size | (with_reducible exact Below.size (by assumption)) | (with_reducible exact Nat.le_trans (Below.size (by assumption)) (Below.size (by assumption))) | (refine Nat.le_trans (Below.size (by assumption)) ?_; go_size)))) | go_size⟩
  case rest =>
    obtain ⟨rfl, hX⟩ := hcut
    have hbX := hX.bl
    have q0 := hX.x0
    have q1 := hX.x1
    have q2 := hX.x2
    have q3 := hX.x3
    have qs := hX.sz
    have hE := hE1.out
    have key : ∀ W1 W2, Below w.heap.size w W1 → CMAt m W2 r i cap D s' → Ch (fun k => k = r ∨ m.own k) W1 W2 → D.l = c.l → ∀ W', Below W2.heap.size W2 W' → ∀ v, StP m w r i cap D s' v (.returned v) W' := fun W1 W2 hB1 hM2 hC2 hl W' hb' v => by
      have hC' := (Ch.of_below hB1 (fun k => k = r ∨ m.own k)).trans hC2 (fun _ _ e => e)
      have h2 := h.turn hM2.b hl hpost hC' (fun e => e.elim hir ni)
      exact ⟨rfl, h2.below hb', hm.below hM2.at_ hb', hC'.trans (Ch.of_below hb' _) (fun _ _ e => e)⟩
    have HK := Lib.hid key
    clear key
    by_cases hw : er ≠ 0 ∨ wt = true
    · have hDd : D = d := by rw [HD.out, if_pos hw]
      subst hDd
      have HDl : D.l = c.l := HQ.out.1
      have HDl2 := Lib.hid HDl
      clear HDl
      by_cases hz : er = 0
      · obtain rfl : wt = true := hw.resolve_left (fun e => e hz)
        subst hz
        clear hw hE
        go_wp2_with ((with_reducible refine (hdo _ (hC0.belowB hm hbX)).mono ?_); rintro e w2 ⟨rfl, hM, hC⟩)
        go_ret2
        exact HK.out _ _ hbX hM hC HDl2.out _ (Below.refl _ _) _
      · have hz1 : (er == 0) = false := by simpa using hz
        have hz2 : (er != 0) = true := by simpa using hz
        have HZ := Lib.hid hz
        clear hz hw hE
        go_wp2_with ((with_reducible refine (hdo _ (hC0.belowB hm hbX)).mono ?_); rintro e w2 ⟨rfl, hM, hC⟩)
        go_ret2
        exact HK.out _ _ hbX hM hC HDl2.out _ (Below.refl _ _) _
    · obtain ⟨rfl, rfl⟩ : er = 0 ∧ wt = false := by
        by_cases h1 : er = 0
        · exact ⟨h1, by cases wt; rfl; exact absurd (.inr rfl) hw⟩
        · exact absurd (.inl h1) hw
      clear hw hE
      go_upto_region 9 with ((with_reducible refine (hdo _ (hC0.belowB hm hbX)).mono ?_); rintro e w2 ⟨rfl, hM, hC⟩)
      have k0 : w2.cell? ⟨w.heap.size, 0, none⟩ = some (.int .i64 x.k) := hC.keeps q0 (fun e => e.elim (fun e => by simp at e; omega) (HNO.out _ (Nat.le_refl _)))
      have ksz : w.heap.size < w2.heap.size := Nat.lt_of_lt_of_le qs hC.size
      have y0 := hM.b.c0
      rw [show d.l.length = c.l.length by rw [HQ.out.1]] at y0
      have y1 := hM.b.c1
      have y6 := hM.b.c6 hM.r4
      have y7 := hM.b.c7 hM.r4
      have yr := hM.b.reg 0 (by rw [hM.r4]; omega)
      have yf := hM.b.frozen
      have yl := hM.b.lt
      have hn0 : (0 : Int) ≤ nx := by omega
      have HDl : D.l = c.l := by
        rw [HD.out]
        split
        · rename_i h0; simp at h0
        · split <;> exact HQ.out.1
      have HDl2 := Lib.hid HDl
      clear HDl
      by_cases hk : x.k = 9
      · have hDd : D = { d with pc := nx } := by rw [HD.out, if_neg (by simp), if_neg (by simp [hk])]
        have hk1 : (x.k != 9) = false := by simpa using hk
        have HK9 := Lib.hid hk
        clear hk
        have hfin := HK.out _ (w2.setCell ⟨r, 1, none⟩ (.int .i64 nx)) hbX (hDd ▸ hM.store hm (hM.b.setPc nx) hM.r4) (hC.setCell (p := ⟨r, 1, none⟩) (.inl (.inl rfl)) _) HDl2.out
        have HF := Lib.hid hfin
        clear hfin hDd
        go_wp2_with (go_quiet (fail))
        go_ret2
        exact HF.out _ (by (repeat' (first | (with_reducible exact Below.refl _ _) | (with_reducible assumption) | (with_reducible refine Below.alloc ?_ ?_ _) | (with_reducible refine Below.drew ?_) | (with_reducible refine below_drewN ?_ _) | (with_reducible refine Below.setCell ?_ ?_ _) | (with_reducible refine Below.trans ?_ (Below.mono (by assumption) ?_)) | (first | go_size | (with_reducible exact Below.size (by assumption)) | (with_reducible exact Nat.le_trans (Below.size (by assumption)) (Below.size (by assumption))) | (refine Nat.le_trans (Below.size (by assumption)) ?_; go_size))))) _
      · have hk1 : (x.k != 9) = true := by simpa using hk
        by_cases hl : nx = c.l.length
        · have hDd : D = { d with pc := nx, res := d.r.getD 0 0, ended := true } := by
            rw [HD.out, if_neg (by simp), if_pos ⟨hk, by rw [HQ.out.1]; exact hl⟩]
          have hl1 : ((nx : Int) == c.l.length) = true := by simp [hl]
          have HL := Lib.hid hl
          have HK9 := Lib.hid hk
          clear hk hl
          have hM3 := hM.store hm (hM.b.setPc nx) hM.r4
          have hC3 := hC.setCell (p := ⟨r, 1, none⟩) (.inl (.inl rfl)) (.int .i64 (nx : Int))
          go_upto_region 11 with (go_quiet (fail))
          have hb4 : Below (w2.setCell ⟨r, 1, none⟩ (.int .i64 (nx : Int))).heap.size (w2.setCell ⟨r, 1, none⟩ (.int .i64 (nx : Int))) ((w2.setCell ⟨r, 1, none⟩ (.int .i64 (nx : Int))).drewN nq) := by (repeat' (first | (with_reducible exact Below.refl _ _) | (with_reducible assumption) | (with_reducible refine Below.alloc ?_ ?_ _) | (with_reducible refine Below.drew ?_) | (with_reducible refine below_drewN ?_ _) | (with_reducible refine Below.setCell ?_ ?_ _) | (with_reducible refine Below.trans ?_ (Below.mono (by assumption) ?_)) | (first | go_size | (with_reducible exact Below.size (by assumption)) | (with_reducible exact Nat.le_trans (Below.size (by assumption)) (Below.size (by assumption))) | (refine Nat.le_trans (Below.size (by assumption)) ?_; go_size))))
          have hM4 := hM3.belowB hm hb4
          have hC4 := hC3.trans (Ch.of_below hb4 (fun k => k = r ∨ m.own k)) (fun _ _ e => e)
          generalize (w2.setCell ⟨r, 1, none⟩ (.int .i64 (nx : Int))).drewN nq = w4 at hM4 hC4 ⊢
          have z6 := hM4.b.c6 hM4.r4
          have z7 := hM4.b.c7 hM4.r4
          have z2 : w4.cell? ⟨r, 2, none⟩ = some (.int .u64 (d.r.getD 0 0)) := hM4.b.reg 0 (by rw [hM4.r4]; omega)
          have zf := hM4.b.frozen
          have zl := hM4.b.lt
          generalize d.r.getD 0 0 = ρ at *
          have hP := endP (w' := (w4.setCell ⟨r, 6, none⟩ (.int .u64 ρ)).setCell ⟨r, 7, none⟩ (.bool true)) hM4 hm hM4.r4 ρ (.bool true) (Below.refl _ _)
          have hfin := HK.out _ _ hbX (hDd ▸ hP.2.1) (hC4.trans hP.2.2 (fun _ _ e => e)) HDl2.out
          have HF := Lib.hid hfin
          clear hfin hDd hP hM4 hM3 hC3 hC4 hC k0 y0 y1 y6 y7 yr yf hdo hb4
          go_wp2
          go_ret2
          exact HF.out _ (by (repeat' (first | (with_reducible exact Below.refl _ _) | (with_reducible assumption) | (with_reducible refine Below.alloc ?_ ?_ _) | (with_reducible refine Below.drew ?_) | (with_reducible refine below_drewN ?_ _) | (with_reducible refine Below.setCell ?_ ?_ _) | (with_reducible refine Below.trans ?_ (Below.mono (by assumption) ?_)) | (first | go_size | (with_reducible exact Below.size (by assumption)) | (with_reducible exact Nat.le_trans (Below.size (by assumption)) (Below.size (by assumption))) | (refine Nat.le_trans (Below.size (by assumption)) ?_; go_size))))) _
        · have hDd : D = { d with pc := nx } := by rw [HD.out, if_neg (by simp), if_neg (by rw [HQ.out.1]; exact fun e => hl e.2)]
          have hl1 : ((nx : Int) == c.l.length) = false := by rw [beq_eq_false_iff_ne]; omega
          have HL := Lib.hid hl
          have HK9 := Lib.hid hk
          clear hk hl
          have hfin := HK.out _ (w2.setCell ⟨r, 1, none⟩ (.int .i64 nx)) hbX (hDd ▸ hM.store hm (hM.b.setPc nx) hM.r4) (hC.setCell (p := ⟨r, 1, none⟩) (.inl (.inl rfl)) _) HDl2.out
          have HF := Lib.hid hfin
          clear hfin hDd
          go_wp2_with (go_quiet (fail))
          go_ret2
          exact HF.out _ (by (repeat' (first | (with_reducible exact Below.refl _ _) | (with_reducible assumption) | (with_reducible refine Below.alloc ?_ ?_ _) | (with_reducible refine Below.drew ?_) | (with_reducible refine below_drewN ?_ _) | (with_reducible refine Below.setCell ?_ ?_ _) | (with_reducible refine Below.trans ?_ (Below.mono (by assumption) ?_)) | (first | go_size | (with_reducible exact Below.size (by assumption)) | (with_reducible exact Nat.le_trans (Below.size (by assumption)) (Below.size (by assumption))) | (refine Nat.le_trans (Below.size (by assumption)) ?_; go_size))))) _
end Go.Proofs.Ytmbofohdjdipdaa
