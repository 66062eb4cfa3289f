/-
  Contracts of package thread: a machine's step.
-/
import Derived.Test.YtmbofohdjdipdaaTh10
import Derived.Test.YtmbofohdjdipdaaDrawnD
namespace Go.Proofs.Ytmbofohdjdipdaa
open Go.RowKit

abbrev didV (t : Int) (n : Note) (wt en : Bool) : Value := .agg #[.int .i64 t, .int .i64 n.k, .int .i64 n.i, .int .u64 n.b, .int .u64 n.a, .bool wt, .bool en]
abbrev note0 : Note := ⟨0, 0, 0, 0⟩
def didZ : List Value := [.int .i64 0, .int .i64 0, .int .i64 0, .int .u64 0, .int .u64 0, .bool false, .bool false]
theorem step_out (M : MaR) (ws : List Int) (t : Int) (w : World) (h : MaAt w M ws) (ht : t < 0 ∨ (M.qs.length : Int) ≤ t) :
    Calls Try.prog 16 #[.pointer (some ⟨M.r, 0, none⟩), .int .i64 t] w fun e w' => e = .returned (.tuple #[didV 0 note0 false false, .int .i64 2]) ∧ Below w.heap.size w w' := by
  have hmz := fun W hW => mazero_ok M ws W hW
  have hmn := fun W hW => manone_ok M ws t W hW
  rw [noneB_out ht] at hmn
  clear ht
  go_enter Try.func16, Try.ntmps16
  go_wp2_with (first | (go_at_call 60; refine (hmz _ (h.below (by (repeat' (first | (with_reducible exact Below.refl _ _) | (with_reducible assumption) | (with_reducible refine Below.alloc ?_ ?_ _) | (with_reducible refine Below.drew ?_) | (with_reducible refine below_drewN ?_ _) | (with_reducible refine Below.setCell ?_ ?_ _) | (with_reducible refine Below.trans ?_ (Below.mono (by assumption) ?_)) | (first | go_size | (with_reducible exact Below.size (by assumption)) | (with_reducible exact Nat.le_trans (Below.size (by assumption)) (Below.size (by assumption))) | (refine Nat.le_trans (Below.size (by assumption)) ?_; go_size))))))).mono ?_; rintro e w1 ⟨rfl, rfl⟩) | (go_at_call 61; refine (hmn _ (h.below (by (repeat' (first | (with_reducible exact Below.refl _ _) | (with_reducible assumption) | (with_reducible refine Below.alloc ?_ ?_ _) | (with_reducible refine Below.drew ?_) | (with_reducible refine below_drewN ?_ _) | (with_reducible refine Below.setCell ?_ ?_ _) | (with_reducible refine Below.trans ?_ (Below.mono (by assumption) ?_)) | (first | go_size | (with_reducible exact Below.size (by assumption)) | (with_reducible exact Nat.le_trans (Below.size (by assumption)) (Below.size (by assumption))) | (refine Nat.le_trans (Below.size (by assumption)) ?_; go_size))))))).mono ?_; rintro e w1 ⟨rfl, rfl⟩))
  refine bodyPost_ret (v := .tuple #[didV 0 note0 false false, .int .i64 2]) (by simp [results, go_sem]) rfl ?_
  exact ⟨rfl, by (repeat' (first | (with_reducible exact Below.refl _ _) | (with_reducible assumption) | (with_reducible refine Below.alloc ?_ ?_ _) | (with_reducible refine Below.drew ?_) | (with_reducible refine below_drewN ?_ _) | (with_reducible refine Below.setCell ?_ ?_ _) | (with_reducible refine Below.trans ?_ (Below.mono (by assumption) ?_)) | (first | go_size | (with_reducible exact Below.size (by assumption)) | (with_reducible exact Nat.le_trans (Below.size (by assumption)) (Below.size (by assumption))) | (refine Nat.le_trans (Below.size (by assumption)) ?_; go_size))))⟩
theorem step_end (M : MaR) (ws : List Int) (j : Nat) (q : ThR) (w : World) (h : MaAt w M ws) (hq : M.qs[j]? = some q) (hd : q.t.x.done = true) :
    Calls Try.prog 16 #[.pointer (some ⟨M.r, 0, none⟩), .int .i64 j] w fun e w' => e = .returned (.tuple #[didV 0 note0 false false, .int .i64 17]) ∧ Below w.heap.size w w' := by
  have hj : j < M.qs.length := (List.getElem?_eq_some_iff.1 hq).1
  have hmz := fun W hW => mazero_ok M ws W hW
  have hmn := fun W hW => manone_ok M ws j W hW
  rw [noneB_in hj] at hmn
  obtain ⟨lb, c, hlv, hcl, hcm, ⟨sp, hbl⟩, e0, e1, e2⟩ := h.at hq
  have c1 := h.c1
  rw [hlv] at c1
  have hrl := h.hd.lt
  have hll := hbl.lt
  have hpr := h.pr q (List.mem_of_getElem? hq)
  have hok := hpr.ok
  have z1 := hok.nd
  have z2 := hok.md
  have z3 := hok.kd
  have i1 : (0 : Int) ≤ j := Int.natCast_nonneg _
  have i2 : (j : Int) < M.qs.length := by omega
  have hdn := fun W (hW : ProgAt W q.d q.fs q.t.x) => p_done hW
  rw [hd] at hdn
  clear hlv hd
  go_enter Try.func16, Try.ntmps16
  go_wp2_with (first | (go_at_call 60; refine (hmz _ (h.below (by (repeat' (first | (with_reducible exact Below.refl _ _) | (with_reducible assumption) | (with_reducible refine Below.alloc ?_ ?_ _) | (with_reducible refine Below.drew ?_) | (with_reducible refine below_drewN ?_ _) | (with_reducible refine Below.setCell ?_ ?_ _) | (with_reducible refine Below.trans ?_ (Below.mono (by assumption) ?_)) | (first | go_size | (with_reducible exact Below.size (by assumption)) | (with_reducible exact Nat.le_trans (Below.size (by assumption)) (Below.size (by assumption))) | (refine Nat.le_trans (Below.size (by assumption)) ?_; go_size))))))).mono ?_; rintro e w1 ⟨rfl, rfl⟩) | (go_at_call 61; refine (hmn _ (h.below (by (repeat' (first | (with_reducible exact Below.refl _ _) | (with_reducible assumption) | (with_reducible refine Below.alloc ?_ ?_ _) | (with_reducible refine Below.drew ?_) | (with_reducible refine below_drewN ?_ _) | (with_reducible refine Below.setCell ?_ ?_ _) | (with_reducible refine Below.trans ?_ (Below.mono (by assumption) ?_)) | (first | go_size | (with_reducible exact Below.size (by assumption)) | (with_reducible exact Nat.le_trans (Below.size (by assumption)) (Below.size (by assumption))) | (refine Nat.le_trans (Below.size (by assumption)) ?_; go_size))))))).mono ?_; rintro e w1 ⟨rfl, rfl⟩) | ((with_reducible refine (hdn _ (hpr.below (by (repeat' (first | (with_reducible exact Below.refl _ _) | (with_reducible assumption) | (with_reducible refine Below.alloc ?_ ?_ _) | (with_reducible refine Below.drew ?_) | (with_reducible refine below_drewN ?_ _) | (with_reducible refine Below.setCell ?_ ?_ _) | (with_reducible refine Below.trans ?_ (Below.mono (by assumption) ?_)) | (first | go_size | (with_reducible exact Below.size (by assumption)) | (with_reducible exact Nat.le_trans (Below.size (by assumption)) (Below.size (by assumption))) | (refine Nat.le_trans (Below.size (by assumption)) ?_; go_size))))))).mono ?_); rintro e w1 ⟨rfl, rfl⟩))
  refine bodyPost_ret (v := .tuple #[didV 0 note0 false false, .int .i64 17]) (by simp [results, go_sem]) rfl ?_
  exact ⟨rfl, by (repeat' (first | (with_reducible exact Below.refl _ _) | (with_reducible assumption) | (with_reducible refine Below.alloc ?_ ?_ _) | (with_reducible refine Below.drew ?_) | (with_reducible refine below_drewN ?_ _) | (with_reducible refine Below.setCell ?_ ?_ _) | (with_reducible refine Below.trans ?_ (Below.mono (by assumption) ?_)) | (first | go_size | (with_reducible exact Below.size (by assumption)) | (with_reducible exact Nat.le_trans (Below.size (by assumption)) (Below.size (by assumption))) | (refine Nat.le_trans (Below.size (by assumption)) ?_; go_size))))⟩

/-- a step with an arena that allows one access -/
def oStep (ws : List Int) (x : Pg) : Res (List Int × Note) := x.step (onceM 0 0 0 0) (ws, note0)
theorem oStep_eq (o b g c : Nat) (ws : List Int) (x : Pg) : x.step (onceM o b g c) (ws, note0) = oStep ws x := by
  unfold oStep
  cases x with
  | code c => rfl
  | chain l => cases l <;> rfl
  | greedy x nb => rfl
abbrev inc (z : Int) : Int := wrap64 (z + 1)
/-- a thread after a step -/
def thrN (t : Thr) (z : Res (List Int × Note)) : Thr := if z.e = 0 then ⟨z.x, inc t.steps, if z.wt then inc t.looks else t.looks⟩ else ⟨z.x, t.steps, t.looks⟩
def didR (j : Int) (z : Res (List Int × Note)) : Value := if z.e = 0 then didV j z.s.2 z.wt z.x.done else didV 0 note0 false false
theorem set_same {l : List Value} {i : Nat} {u : Value} (h : l[i]? = some u) : l.set i u = l := by
  apply List.ext_getElem?
  intro k
  rw [List.getElem?_set]
  split
  · rename_i e
    subst e
    rw [if_pos (List.getElem?_eq_some_iff.1 h).1, h]
  · rfl
theorem thVs_same {l : List ThR} {j : Nat} {x y : ThR} (h : l[j]? = some x) (hy : thV x = thV y) : thVs (l.set j y) = thVs l := by
  have h1 := thVs_set y 0 x.d.v (by omega) l j x h (by rw [← hy]; rfl)
  rw [← h1, Nat.add_zero]
  exact set_same (by have := thVs_at l j x h 0 (by omega); exact this)
theorem step_fin {w w1 w2 w' : World} {M : MaR} {ws ws' : List Int} {n' : Note} {j lb c rv ob : Nat} {q : ThR} {fs2 : List Nat} {t' : Thr} {cs sp : List Value} (h : MaAt w M ws) (hbW1 : Below w.heap.size w w1) (h1 : MaAt w1 M ws) (hq : M.qs[j]? = some q)
    (hlv : M.lv = .slice (some ⟨lb, 0, none⟩) M.qs.length c) (hbl1 : Blk w1 lb 132 (thVs M.qs ++ sp)) (hO1 : OnceAt w1 ob M.b 0 0 0 0) (hob : w.heap.size ≤ ob) (hres1 : Blk w1 rv 47 cs) (hrv : w.heap.size ≤ rv)
    (hsub : ∀ k ∈ fs2, k ∈ q.fs) (hp2 : ProgAt w2 q.d fs2 t'.x) (hOn1 : OnAt w1 ob M.b M.g M.c ws note0) (hOn2 : OnAt w2 ob M.b M.g M.c ws' n') (hC2 : Ch (fun k => k ∈ q.fs ∨ (onceM ob M.b M.g M.c).own k) w1 w2)
    (hC3 : Ch (fun k => k = lb ∨ k = rv) w2 w') (hown : w'.ownsRow 0 132 3 M.lv M.qs.length (thVs (M.qs.set j ⟨q.d, fs2, t'⟩))) :
    ∃ M', MaAt w' M' ws' ∧ M'.qs.map (·.t) = (M.qs.map (·.t)).set j t' ∧ M'.r = M.r ∧ (∀ k, M'.foot k → M.foot k ∨ w.heap.size ≤ k ∨ k ∈ ([] : List Nat)) ∧ Ch M.foot w w' := by
  have hpr := h1.pr q (List.mem_of_getElem? hq)
  have hlt := h.lt
  have own_ : ∀ k, (onceM ob M.b M.g M.c).own k ↔ k = M.b ∨ k = M.g ∨ k = ob := fun k => Iff.rfl
  have hA1 : (onceM ob M.b M.g M.c).At w1 (ws, note0) := hOn1
  have lbf : M.foot lb := .inr (.inr (.inr (.inl (by rw [hlv]; rfl))))
  have hC : Ch (fun k => k ∈ q.fs ∨ (onceM ob M.b M.g M.c).own k ∨ k = lb ∨ k = rv) w1 w' := (hC2.mono (fun k _ e => e.elim .inl (fun e => .inr (.inl e)))).trans hC3 (fun k _ e => .inr (.inr e))
  have hmut : Mut w1 (fun k => k ∈ q.fs ∨ (onceM ob M.b M.g M.c).own k ∨ k = lb ∨ k = rv) :=
    hpr.mut.or (((once_ok ob M.b M.g M.c).mut hA1).or ((Mut.one hbl1 (by unfold fixTy; decide)).or (Mut.one hres1 (by unfold fixTy; decide))))
  have hno := hpr.no (once_ok ob M.b M.g M.c) hA1
  have tyne : ∀ {t t' : TypeId} {cs cs' : List Value} {k k' : Nat}, Blk w1 k t cs → Blk w1 k' t' cs' → t ≠ t' → k ≠ k' := fun hb hb' ht e => by
    subst e
    exact Blk.ne hb hb' ht rfl
  have progne : ∀ {d : Pif} {fs : List Nat} {x : Pg} {t : TypeId} {cs : List Value} {k' : Nat}, ProgAt w1 d fs x → Blk w1 k' t cs → ¬ progTy t → ∀ k ∈ fs, k ≠ k' := fun hp hb ht k hk e => by
    obtain ⟨tt, cs', hB', htt⟩ := hp.ty k hk
    subst e
    exact Blk.ne hB' hb (fun e => ht (e ▸ htt)) rfl
  have npt : ¬ progTy 132 := by unfold progTy; decide
  have npd : ¬ progTy 47 := by unfold progTy; decide
  have hrF : ¬ (M.r ∈ q.fs ∨ (onceM ob M.b M.g M.c).own M.r ∨ M.r = lb ∨ M.r = rv) := by
    rintro (e | e | e | e)
    · exact progne hpr h1.hd (by unfold progTy; decide) _ e rfl
    · exact (once_ok ob M.b M.g M.c).not_own hA1 h1.hd (by unfold memTy; decide) e
    · exact tyne h1.hd hbl1 (by decide) e
    · exact tyne h1.hd hres1 (by decide) e
  have hmem : MemAt w' M.b M.g M.c ws' := hOn2.mem.keep hC3 (by
      rintro (e | e)
      · exact tyne h1.mem.hd hbl1 (by decide) e
      · exact tyne h1.mem.hd hres1 (by decide) e) (by
      obtain ⟨sp2, hr⟩ := h1.mem.row
      rintro (e | e)
      · exact tyne hr hbl1 (by decide) e
      · exact tyne hr hres1 (by decide) e)
  have hblty : ∀ k, k ∈ fs2 → k < w1.heap.size := fun k hk => hpr.lt k (hsub k hk)
  have hp' : ProgAt w' q.d fs2 t'.x := hp2.keep hC3 (by
      refine Mut.or (fun k hk hl => ?_) (fun k hk hl => ?_)
      · subst hk
        exact ⟨_, _, hbl1.keep hC2 (fun e => e.elim (fun e => progne hpr hbl1 npt _ e rfl) (fun e => (once_ok ob M.b M.g M.c).not_own hA1 hbl1 (by unfold memTy; decide) e)), by unfold fixTy; decide⟩
      · subst hk
        exact ⟨_, _, hres1.keep hC2 (fun e => e.elim (fun e => progne hpr hres1 npd _ e rfl) (fun e => (once_ok ob M.b M.g M.c).not_own hA1 hres1 (by unfold memTy; decide) e)), by unfold fixTy; decide⟩)
    (fun k hk e => e.elim (progne hpr hbl1 npt k (hsub k hk)) (progne hpr hres1 npd k (hsub k hk)))
  obtain ⟨k1, k2⟩ := h1.setQ (q' := ⟨q.d, fs2, t'⟩) hq hlv hC hmut hrF hmem hown hp' (fun p hp hdis k hk e => by
    have hpp := h1.pr p hp
    rcases e with e | e | e | e
    · exact hdis k hk e
    · exact hpp.no (once_ok ob M.b M.g M.c) hA1 k hk e
    · exact progne hpp hbl1 npt k hk e
    · exact progne hpp hres1 npd k hk e) (fun k hk => .inl (hsub k hk))
  refine ⟨_, k1, by simp [List.map_set], rfl, fun k hk => ?_, ?_⟩
  · rcases k2 k hk with e | e
    · exact .inl e
    · exact .inl (.inr (.inr (.inr (.inr ⟨q, List.mem_of_getElem? hq, hsub k e⟩))))
  · refine (Ch.of_below hbW1 M.foot).trans hC (fun k hk e => ?_)
    rcases e with e | e | e | e
    · exact .inr (.inr (.inr (.inr ⟨q, List.mem_of_getElem? hq, e⟩)))
    · rcases (own_ k).1 e with rfl | rfl | rfl
      · exact .inr (.inl rfl)
      · exact .inr (.inr (.inl rfl))
      · omega
    · subst e; exact lbf
    · subst e; omega
set_option maxRecDepth 100000 in
set_option maxHeartbeats 4000000 in
theorem step_ok (M : MaR) (ws : List Int) (j : Nat) (q : ThR) (w : World) (h : MaAt w M ws) (hq : M.qs[j]? = some q) (hd : q.t.x.done = false) :
    Calls Try.prog 16 #[.pointer (some ⟨M.r, 0, none⟩), .int .i64 j] w
      (MaP w M (oStep ws q.t.x).s.1 ((M.qs.map (·.t)).set j (thrN q.t (oStep ws q.t.x))) [] (.tuple #[didR j (oStep ws q.t.x), .int .i64 (oStep ws q.t.x).e])) := by
  have hj : j < M.qs.length := (List.getElem?_eq_some_iff.1 hq).1
  have hmz := fun W hW => mazero_ok M ws W hW
  have hmn := fun W hW => manone_ok M ws j W hW
  rw [noneB_in hj] at hmn
  obtain ⟨lb, c, hlv, hcl, hcm, ⟨sp, hbl⟩, e0, e1, e2⟩ := h.at hq
  have c0 := h.c0
  have c1 := h.c1
  rw [hlv] at c1
  have hrl := h.hd.lt
  have hll := hbl.lt
  have hpr := h.pr q (List.mem_of_getElem? hq)
  have hok := hpr.ok
  have z1 := hok.nd
  have z2 := hok.md
  have z3 := hok.kd
  have y1 := hok.ns
  have y2 := hok.ms
  have y3 := hok.ks
  have i1 : (0 : Int) ≤ j := Int.natCast_nonneg _
  have i2 : (j : Int) < M.qs.length := by omega
  have hdn := fun W (hW : ProgAt W q.d q.fs q.t.x) => p_done hW
  rw [hd] at hdn
  have hst : ∀ o W, ProgAt W q.d q.fs q.t.x → OnAt W o M.b M.g M.c ws note0 → Calls Try.prog q.d.fs #[q.d.p, .iface 133 (.pointer (some ⟨o, 0, none⟩))] W (PStepP (onceM o M.b M.g M.c) W q.d q.fs (oStep ws q.t.x)) := fun o W h1 h2 => by
    rw [← oStep_eq o M.b M.g M.c]
    exact p_step (onceM o M.b M.g M.c) (once_ok o M.b M.g M.c) (ws, note0) h1 h2
  have HL := Lib.hid hlv
  obtain ⟨z, hz⟩ : ∃ z, z = oStep ws q.t.x := ⟨_, rfl⟩
  rw [← hz] at hst ⊢
  have hnw := fun W hW => new_once_ok M.b M.g M.c ws W hW
  clear hlv hd hz
  go_enter Try.func16, Try.ntmps16
  go_upto_region 10 with (first | (go_at_call 60; refine (hmz _ (h.below (by (repeat' (first | (with_reducible exact Below.refl _ _) | (with_reducible assumption) | (with_reducible refine Below.alloc ?_ ?_ _) | (with_reducible refine Below.drew ?_) | (with_reducible refine below_drewN ?_ _) | (with_reducible refine Below.setCell ?_ ?_ _) | (with_reducible refine Below.trans ?_ (Below.mono (by assumption) ?_)) | (first | go_size | (with_reducible exact Below.size (by assumption)) | (with_reducible exact Nat.le_trans (Below.size (by assumption)) (Below.size (by assumption))) | (refine Nat.le_trans (Below.size (by assumption)) ?_; go_size))))))).mono ?_; rintro e w1 ⟨rfl, rfl⟩) | (go_at_call 61; refine (hmn _ (h.below (by (repeat' (first | (with_reducible exact Below.refl _ _) | (with_reducible assumption) | (with_reducible refine Below.alloc ?_ ?_ _) | (with_reducible refine Below.drew ?_) | (with_reducible refine below_drewN ?_ _) | (with_reducible refine Below.setCell ?_ ?_ _) | (with_reducible refine Below.trans ?_ (Below.mono (by assumption) ?_)) | (first | go_size | (with_reducible exact Below.size (by assumption)) | (with_reducible exact Nat.le_trans (Below.size (by assumption)) (Below.size (by assumption))) | (refine Nat.le_trans (Below.size (by assumption)) ?_; go_size))))))).mono ?_; rintro e w1 ⟨rfl, rfl⟩) | ((with_reducible refine (hdn _ (hpr.below (by (repeat' (first | (with_reducible exact Below.refl _ _) | (with_reducible assumption) | (with_reducible refine Below.alloc ?_ ?_ _) | (with_reducible refine Below.drew ?_) | (with_reducible refine below_drewN ?_ _) | (with_reducible refine Below.setCell ?_ ?_ _) | (with_reducible refine Below.trans ?_ (Below.mono (by assumption) ?_)) | (first | go_size | (with_reducible exact Below.size (by assumption)) | (with_reducible exact Nat.le_trans (Below.size (by assumption)) (Below.size (by assumption))) | (refine Nat.le_trans (Below.size (by assumption)) ?_; go_size))))))).mono ?_); rintro e w1 ⟨rfl, rfl⟩) | (go_at_call 62; refine (hnw _ (h.below (by (repeat' (first | (with_reducible exact Below.refl _ _) | (with_reducible assumption) | (with_reducible refine Below.alloc ?_ ?_ _) | (with_reducible refine Below.drew ?_) | (with_reducible refine below_drewN ?_ _) | (with_reducible refine Below.setCell ?_ ?_ _) | (with_reducible refine Below.trans ?_ (Below.mono (by assumption) ?_)) | (first | go_size | (with_reducible exact Below.size (by assumption)) | (with_reducible exact Nat.le_trans (Below.size (by assumption)) (Below.size (by assumption))) | (refine Nat.le_trans (Below.size (by assumption)) ?_; go_size)))))).mem).mono ?_; rintro e w1 ⟨rfl, hO, hb1⟩))
  have hbw : Below w.heap.size w (w.alloc (.cells didZ.toArray 47)) := by (repeat' (first | (with_reducible exact Below.refl _ _) | (with_reducible assumption) | (with_reducible refine Below.alloc ?_ ?_ _) | (with_reducible refine Below.drew ?_) | (with_reducible refine below_drewN ?_ _) | (with_reducible refine Below.setCell ?_ ?_ _) | (with_reducible refine Below.trans ?_ (Below.mono (by assumption) ?_)) | (first | go_size | (with_reducible exact Below.size (by assumption)) | (with_reducible exact Nat.le_trans (Below.size (by assumption)) (Below.size (by assumption))) | (refine Nat.le_trans (Below.size (by assumption)) ?_; go_size))))
  have hres := Blk.new w 47 didZ
  have hwa := h.below hbw
  have hOsz : (w.alloc (.cells didZ.toArray 47)).heap.size = w.heap.size + 1 := by simp
  have hb1' : Below (w.alloc (.cells didZ.toArray 47)).heap.size (w.alloc (.cells didZ.toArray 47)) w1 := hb1
  have hres1 := hres.keep (Ch.of_below hb1' (fun _ => False)) (fun e => e)
  have hO1 : OnceAt w1 (w.heap.size + 1) M.b 0 0 0 0 := by rw [← hOsz]; exact hO
  have h1 := hwa.below hb1'
  have hbW1 : Below w.heap.size w w1 := hbw.trans (hb1'.mono hbw.size)
  clear hO hb1 hres hwa hb1' hOsz
  obtain ⟨lb', c', hlv', _, _, ⟨sp', hbl1⟩, f0, f1, f2⟩ := h1.at hq
  obtain ⟨rfl, rfl⟩ : lb' = lb ∧ c' = c := by
    have := hlv'.symm.trans HL.out
    injection this with a b c
    injection a with a
    injection a with a
    exact ⟨a, c⟩
  have g1 := h1.c1
  rw [hlv'] at g1
  have hpr1 := h1.pr q (List.mem_of_getElem? hq)
  have hrn : ∀ {t : TypeId} {cs : List Value} {k : Nat}, Blk w1 k t cs → t ≠ 163 → k ≠ w.heap.size + 1 := fun hb ht e => by
    subst e
    exact Blk.ne hb hO1 ht rfl
  have hOn : OnAt w1 (w.heap.size + 1) M.b M.g M.c ws note0 := ⟨h1.mem, hO1, fun _ => rfl, hrn h1.mem.hd (by decide), by obtain ⟨sp2, hr⟩ := h1.mem.row; exact hrn hr (by decide)⟩
  have hs1 := hst _ w1 hpr1 hOn
  clear c0 c1 e0 e1 e2 hst hdn hlv' hmz hmn hnw
  have hlv := HL.out
  have HLV := Lib.hid hlv
  have hAn : (onceM (w.heap.size + 1) M.b M.g M.c).At w1 (ws, note0) := hOn
  have hlbno : ¬ (lb' ∈ q.fs ∨ (onceM (w.heap.size + 1) M.b M.g M.c).own lb') := by
    rintro (e | e)
    · obtain ⟨tt, cs', hB', htt⟩ := hpr1.ty _ e
      refine Blk.ne hB' hbl1 (fun e => ?_) rfl
      subst e
      revert htt
      unfold progTy
      decide
    · exact (once_ok _ M.b M.g M.c).not_own hAn hbl1 (by unfold memTy; decide) e
  have hrvno : ¬ (w.heap.size ∈ q.fs ∨ (onceM (w.heap.size + 1) M.b M.g M.c).own w.heap.size) := by
    rintro (e | e)
    · have := hpr.lt _ e; omega
    · exact (once_ok _ M.b M.g M.c).not_own hAn hres1 (by unfold memTy; decide) e
  have hown1 := h1.own
  have hfin := fun w2 w' fs2 t' ws' n' => step_fin (w2 := w2) (w' := w') (fs2 := fs2) (t' := t') (ws' := ws') (n' := n') h hbW1 h1 hq hlv hbl1 hO1 (Nat.le_succ _) hres1 (Nat.le_refl _)
  have HF := Lib.hid hfin
  clear hfin hlv HL
  have hne : lb' ≠ w.heap.size := by omega
  have hne2 := hne.symm
  by_cases hz : z.e = 0
  · have hz1 : (z.e != 0) = false := by simpa using hz
    have hdr : didR j z = didV j z.s.2 z.wt z.x.done := by unfold didR; rw [if_pos hz]
    have htn : thrN q.t z = ⟨z.x, inc q.t.steps, if z.wt then inc q.t.looks else q.t.looks⟩ := by unfold thrN; rw [if_pos hz]
    have HD := Lib.hid hdr
    have HT := Lib.hid htn
    have HZ := Lib.hid hz
    clear hz hdr htn
    go_upto_region 14 with ((with_reducible refine hs1.mono ?_); rintro e w2 ⟨rfl, ⟨fs2, hsub, hp2⟩, hOn2, hC2⟩)
    have hr2 := hres1.keep hC2 hrvno
    have hb2 := hbl1.keep hC2 hlbno
    have e0 := hC2.keeps f0 hlbno
    have e1 := hC2.keeps f1 hlbno
    have e2 := hC2.keeps f2 hlbno
    have ef := hb2.frozen
    have el := hb2.lt
    have rl := hr2.lt
    have hown2 : w2.ownsRow 0 132 3 (.slice (some ⟨lb', 0, none⟩) M.qs.length c') M.qs.length (thVs (M.qs.set j ⟨q.d, fs2, q.t⟩)) := by
      rw [thVs_same (y := ⟨q.d, fs2, q.t⟩) hq rfl, ← HLV.out]
      exact own_keep hown1 hC2 (fun b hb _ => by rw [HLV.out] at hb; injection hb with hb; subst hb; exact hlbno)
    have hst1 := own_set hown2 (j * 3 + 1) (.int .i64 (inc q.t.steps))
    rw [thVs_set ⟨q.d, fs2, ⟨q.t.x, inc q.t.steps, q.t.looks⟩⟩ 1 _ (by omega) _ j ⟨q.d, fs2, q.t⟩ (by simp [hj]) rfl, List.set_set] at hst1
    have hst2 := own_set hst1 (j * 3 + 2) (.int .i64 (inc q.t.looks))
    rw [thVs_set ⟨q.d, fs2, ⟨q.t.x, inc q.t.steps, inc q.t.looks⟩⟩ 2 _ (by omega) _ j ⟨q.d, fs2, ⟨q.t.x, inc q.t.steps, q.t.looks⟩⟩ (by simp [hj]) rfl, List.set_set] at hst2
    cases hwt : z.wt
    · have HW := Lib.hid hwt
      clear hwt
      go_upto_region 17 with (fail)
      have hset : Ch (fun k => k = lb') w2 (w2.setCell ⟨lb', j * 3 + 1, none⟩ (.int .i64 (inc q.t.steps))) := ((Ch.refl (fun k => k = lb') w2).setCell (p := ⟨lb', j * 3 + 1, none⟩) (.inl rfl) (.int .i64 (inc q.t.steps)))
      have hp4 : ProgAt (w2.setCell ⟨lb', j * 3 + 1, none⟩ (.int .i64 (inc q.t.steps))) q.d fs2 z.x := hp2.keep hset (Mut.one hb2 (by unfold fixTy; decide)) (fun k hk e => hlbno (.inl (e ▸ hsub k hk)))
      have hO4 : OnceAt (w2.setCell ⟨lb', j * 3 + 1, none⟩ (.int .i64 (inc q.t.steps))) (w.heap.size + 1) M.b z.s.2.k z.s.2.i z.s.2.b z.s.2.a := hOn2.once.keep hset (by omega)
      have hr4 := hr2.keep hset hne2
      have q0 : ((w2.setCell ⟨lb', j * 3 + 1, none⟩ (.int .i64 (inc q.t.steps)))).cell? ⟨lb', j * 3, none⟩ = some q.d.v := by go_cell
      have hown4 : ((w2.setCell ⟨lb', j * 3 + 1, none⟩ (.int .i64 (inc q.t.steps)))).ownsRow 0 132 3 (.slice (some ⟨lb', 0, none⟩) M.qs.length c') M.qs.length (thVs (M.qs.set j ⟨q.d, fs2, ⟨z.x, (inc q.t.steps), q.t.looks⟩⟩)) := by
        have := hst1
        rwa [← thVs_same (l := M.qs.set j ⟨q.d, fs2, ⟨q.t.x, (inc q.t.steps), q.t.looks⟩⟩) (j := j) (x := ⟨q.d, fs2, ⟨q.t.x, (inc q.t.steps), q.t.looks⟩⟩) (y := ⟨q.d, fs2, ⟨z.x, (inc q.t.steps), q.t.looks⟩⟩) (by simp [hj]) rfl, List.set_set] at this
      clear hst1 hst2 hown2 e0 e1 e2 ef el hb2 hr2 hs1 f0 f1 f2 g1
      generalize (w2.setCell ⟨lb', j * 3 + 1, none⟩ (.int .i64 (inc q.t.steps))) = w4 at *
      have hdn4 := fun W (hW : ProgAt W q.d fs2 z.x) => p_done hW
      have hac4 := fun W hW => oaccess_ok (w.heap.size + 1) M.b z.s.2.k z.s.2.i z.s.2.b z.s.2.a W hW
      refine wp_region_D (fun w' => w'.cell? ⟨lb', j * 3, none⟩ = some q.d.v) [10] (by kernel_rfl) ?hsa (fun hHeld => ?hra)
      case hsa => exact (by go_cell)
      case hra =>
        have hHs := hHeld
        clear hHeld
        refine takeD_pure (i := 0) (v := ?va1) rfl (by kernel_rfl) (by kernel_rfl) (by kernel_rfl) (by kernel_rfl) (fun _ _ _ h => h) (by rfl) ?ya1 (fun _ => hHs) ?ra1
        case ya1 => (intro w; go_simp; (try with_reducible rfl))
        case ra1 =>
          try simp only [Act.put, List.setIfInBounds_toArray, List.set_cons_zero, List.set_cons_succ]
          refine takeD_pure (i := 1) (v := ?va2) rfl (by kernel_rfl) (by kernel_rfl) (by kernel_rfl) (by kernel_rfl) (fun _ _ _ h => h) (by rfl) ?ya2 (fun _ => hHs) ?ra2
          case ya2 => (intro w; go_simp; (try with_reducible rfl))
          case ra2 =>
            try simp only [Act.put, List.setIfInBounds_toArray, List.set_cons_zero, List.set_cons_succ]
            refine takeD_pure (i := 3) (v := ?va3) rfl (by kernel_rfl) (by kernel_rfl) (by kernel_rfl) (by kernel_rfl) (fun _ _ _ h => h) (by rfl) ?ya3 (fun _ => hHs) ?ra3
            case ya3 => (intro w; go_simp; (try with_reducible rfl))
            case ra3 =>
              try simp only [Act.put, List.setIfInBounds_toArray, List.set_cons_zero, List.set_cons_succ]
              refine takeD_pure (i := 4) (v := ?va4) rfl (by kernel_rfl) (by kernel_rfl) (by kernel_rfl) (by kernel_rfl) (fun _ _ _ h => h) (by rfl) ?ya4 (fun _ => hHs) ?ra4
              case ya4 => (intro w; go_simp; (try with_reducible rfl))
              case ra4 =>
                try simp only [Act.put, List.setIfInBounds_toArray, List.set_cons_zero, List.set_cons_succ]
                refine takeD_pure (i := 5) (v := ?va5) rfl (by kernel_rfl) (by kernel_rfl) (by kernel_rfl) (by kernel_rfl) (fun _ _ _ h => h) (by rfl) ?ya5 (fun _ => hHs) ?ra5
                case ya5 => (intro w; go_simp; (try with_reducible rfl))
                case ra5 =>
                  try simp only [Act.put, List.setIfInBounds_toArray, List.set_cons_zero, List.set_cons_succ]
                  refine takeD_pure (i := 6) (v := ?va6) rfl (by kernel_rfl) (by kernel_rfl) (by kernel_rfl) (by kernel_rfl) (fun _ _ _ h => h) (by rfl) ?ya6 (fun _ => hHs) ?ra6
                  case ya6 => (intro w; go_simp; (try with_reducible rfl))
                  case ra6 =>
                    try simp only [Act.put, List.setIfInBounds_toArray, List.set_cons_zero, List.set_cons_succ]
                    refine takeD_load (i := 7) (v := ?va7) rfl (by kernel_rfl) (by kernel_rfl) (by kernel_rfl) (by kernel_rfl) (by kernel_rfl) (by kernel_rfl) (fun _ _ _ h => h) (by rfl) ?ya7 hHs ?ra7
                    case ya7 => (intro w hSw; go_simp; (try with_reducible rfl))
                    case ra7 =>
                      try simp only [Act.put, List.setIfInBounds_toArray, List.set_cons_zero, List.set_cons_succ]
                      refine wpAnyD_ready (rs := [2]) (by kernel_rfl) (by simp) ?ba8
                      case ba8 =>
                        refine consD rfl (fun K hK => ?sa9) ?ma9
                        case sa9 =>
                          go_simp
                          refine (hac4 _ (hO4.keep (Ch.of_below (by (repeat' (first | (with_reducible exact Below.refl _ _) | (with_reducible assumption) | (with_reducible refine Below.alloc ?_ ?_ _) | (with_reducible refine Below.drew ?_) | (with_reducible refine below_drewN ?_ _) | (with_reducible refine Below.setCell ?_ ?_ _) | (with_reducible refine Below.trans ?_ (Below.mono (by assumption) ?_)) | (first | go_size | (with_reducible exact Below.size (by assumption)) | (with_reducible exact Nat.le_trans (Below.size (by assumption)) (Below.size (by assumption))) | (refine Nat.le_trans (Below.size (by assumption)) ?_; go_size)))) : Below w4.heap.size w4 _) (fun _ => False)) (fun e => e))).mono ?_
                          rintro e w5 ⟨rfl, hb5⟩
                          go_wp2_with fail
                          have hHs := (Ch.of_below hb5 (fun _ => False)).keeps hHs (fun e => e)
                          refine hK.out _ _ (fun _ => hHs) ?na9
                          case na9 =>
                            clear hK K
                            try simp only [Act.put, List.setIfInBounds_toArray, List.set_cons_zero, List.set_cons_succ]
                            refine wpAnyD_ready (rs := [8]) (by kernel_rfl) (by simp) ?ba10
                            case ba10 =>
                              refine consD rfl (fun K hK => ?sa11) ?ma11
                              case sa11 =>
                                go_simp
                                with_reducible refine (hdn4 _ (hp4.below (by (repeat' (first | (with_reducible exact Below.refl _ _) | (with_reducible assumption) | (with_reducible refine Below.alloc ?_ ?_ _) | (with_reducible refine Below.drew ?_) | (with_reducible refine below_drewN ?_ _) | (with_reducible refine Below.setCell ?_ ?_ _) | (with_reducible refine Below.trans ?_ (Below.mono (by assumption) ?_)) | (first | go_size | (with_reducible exact Below.size (by assumption)) | (with_reducible exact Nat.le_trans (Below.size (by assumption)) (Below.size (by assumption))) | (refine Nat.le_trans (Below.size (by assumption)) ?_; go_size))))))).mono ?_
                                rintro e w6 ⟨rfl, rfl⟩
                                go_wp2_with fail
                                refine hK.out _ _ (fun _ => hHs) ?na11
                                case na11 =>
                                  clear hK K
                                  try simp only [Act.put, List.setIfInBounds_toArray, List.set_cons_zero, List.set_cons_succ]
                                  refine takeD_pure (i := 9) (v := ?va12) rfl (by kernel_rfl) (by kernel_rfl) (by kernel_rfl) (by kernel_rfl) (fun _ _ _ h => h) (by rfl) ?ya12 (fun _ => hHs) ?ra12
                                  case ya12 => (intro w; go_simp; (try with_reducible rfl))
                                  case ra12 =>
                                    try simp only [Act.put, List.setIfInBounds_toArray, List.set_cons_zero, List.set_cons_succ]
                                    refine wpAnyD_ready (rs := [10]) (by kernel_rfl) (by simp) ?ba13
                                    case ba13 =>
                                      refine consD rfl (fun K hK => ?sa14) ?ma14
                                      case sa14 =>
                                        have hb54 : Below w4.heap.size w4 w5 := by (repeat' (first | (with_reducible exact Below.refl _ _) | (with_reducible assumption) | (with_reducible refine Below.alloc ?_ ?_ _) | (with_reducible refine Below.drew ?_) | (with_reducible refine below_drewN ?_ _) | (with_reducible refine Below.setCell ?_ ?_ _) | (with_reducible refine Below.trans ?_ (Below.mono (by assumption) ?_)) | (first | go_size | (with_reducible exact Below.size (by assumption)) | (with_reducible exact Nat.le_trans (Below.size (by assumption)) (Below.size (by assumption))) | (refine Nat.le_trans (Below.size (by assumption)) ?_; go_size))))
                                        have hr5 := hr4.keep (Ch.of_below hb54 (fun _ => False)) (fun e => e)
                                        have r0 := hr5.cell 0
                                        have r1 := hr5.cell 1
                                        have r2 := hr5.cell 2
                                        have r3 := hr5.cell 3
                                        have r4 := hr5.cell 4
                                        have r5 := hr5.cell 5
                                        have r6 := hr5.cell 6
                                        simp only [didZ, List.getElem?_cons_zero, List.getElem?_cons_succ] at r0 r1 r2 r3 r4 r5 r6
                                        have rf := hr5.frozen
                                        have rl5 := hr5.lt
                                        go_simp
                                        refine hK.out _ _ (noD_no (by kernel_rfl)) ?na14
                                        case na14 =>
                                          clear hK K
                                          try simp only [Act.put]
                                          refine takeD_pure (i := 11) (v := ?va15) rfl (by kernel_rfl) (by kernel_rfl) (by kernel_rfl) (by kernel_rfl) (fun _ _ _ h => h) (by rfl) ?ya15 (noD_no (by kernel_rfl)) ?ra15
                                          case ya15 => (intro w; go_simp; (try with_reducible rfl))
                                          case ra15 =>
                                            try simp only [Act.put, List.setIfInBounds_toArray, List.set_cons_zero, List.set_cons_succ]
                                            refine wpAnyD_done (by kernel_rfl) ?_ _
                                            go_wp2_with fail
                                            refine bodyPost_ret (v := .tuple #[didV j z.s.2 false z.x.done, .int .i64 z.e]) (by simp [results, go_sem, r0, r1, r2, r3, r4, r5, r6, HZ.out]) rfl ?_
                                            refine ⟨by rw [HD.out, HW.out], ?_⟩
                                            rw [HT.out, HW.out]
                                            have hC4 : Ch (fun k => k = lb' ∨ k = w.heap.size) w2 w5 := (hset.mono (fun _ _ e => .inl e)).trans (Ch.of_below hb54 _) (fun _ _ e => e)
                                            refine HF.out w2 _ fs2 ⟨z.x, inc q.t.steps, q.t.looks⟩ z.s.1 z.s.2 hsub hp2 hOn hOn2 hC2 (((((((hC4.setCell (p := ⟨w.heap.size, 0, none⟩) (.inl (.inr rfl)) _).setCell (p := ⟨w.heap.size, 1, none⟩) (.inl (.inr rfl)) _).setCell (p := ⟨w.heap.size, 2, none⟩) (.inl (.inr rfl)) _).setCell (p := ⟨w.heap.size, 3, none⟩) (.inl (.inr rfl)) _).setCell (p := ⟨w.heap.size, 4, none⟩) (.inl (.inr rfl)) _).setCell (p := ⟨w.heap.size, 5, none⟩) (.inl (.inr rfl)) _).setCell (p := ⟨w.heap.size, 6, none⟩) (.inl (.inr rfl)) _) ?_
                                            rw [HLV.out]
                                            exact own_keep (own_keep hown4 (Ch.of_below hb54 (fun _ => False)) (fun _ _ _ e => e)) ((((((((Ch.refl (fun k => k = w.heap.size) w5).setCell (p := ⟨w.heap.size, 0, none⟩) (.inl rfl) _).setCell (p := ⟨w.heap.size, 1, none⟩) (.inl rfl) _).setCell (p := ⟨w.heap.size, 2, none⟩) (.inl rfl) _).setCell (p := ⟨w.heap.size, 3, none⟩) (.inl rfl) _).setCell (p := ⟨w.heap.size, 4, none⟩) (.inl rfl) _).setCell (p := ⟨w.heap.size, 5, none⟩) (.inl rfl) _).setCell (p := ⟨w.heap.size, 6, none⟩) (.inl rfl) _) (fun b hb _ e => by injection hb with hb; subst hb; exact hne e)
                                      case ma14 =>
                                        exact AllReadyD.nil
                              case ma11 =>
                                exact AllReadyD.nil
                        case ma9 =>
                          exact AllReadyD.nil
    · have HW := Lib.hid hwt
      clear hwt
      go_upto_region 17 with (fail)
      have hset : Ch (fun k => k = lb') w2 ((w2.setCell ⟨lb', j * 3 + 1, none⟩ (.int .i64 (inc q.t.steps))).setCell ⟨lb', j * 3 + 2, none⟩ (.int .i64 (inc q.t.looks))) := ((Ch.refl (fun k => k = lb') w2).setCell (p := ⟨lb', j * 3 + 1, none⟩) (.inl rfl) (.int .i64 (inc q.t.steps))).setCell (p := ⟨lb', j * 3 + 2, none⟩) (.inl rfl) (.int .i64 (inc q.t.looks))
      have hp4 : ProgAt ((w2.setCell ⟨lb', j * 3 + 1, none⟩ (.int .i64 (inc q.t.steps))).setCell ⟨lb', j * 3 + 2, none⟩ (.int .i64 (inc q.t.looks))) q.d fs2 z.x := hp2.keep hset (Mut.one hb2 (by unfold fixTy; decide)) (fun k hk e => hlbno (.inl (e ▸ hsub k hk)))
      have hO4 : OnceAt ((w2.setCell ⟨lb', j * 3 + 1, none⟩ (.int .i64 (inc q.t.steps))).setCell ⟨lb', j * 3 + 2, none⟩ (.int .i64 (inc q.t.looks))) (w.heap.size + 1) M.b z.s.2.k z.s.2.i z.s.2.b z.s.2.a := hOn2.once.keep hset (by omega)
      have hr4 := hr2.keep hset hne2
      have q0 : (((w2.setCell ⟨lb', j * 3 + 1, none⟩ (.int .i64 (inc q.t.steps))).setCell ⟨lb', j * 3 + 2, none⟩ (.int .i64 (inc q.t.looks)))).cell? ⟨lb', j * 3, none⟩ = some q.d.v := by go_cell
      have hown4 : (((w2.setCell ⟨lb', j * 3 + 1, none⟩ (.int .i64 (inc q.t.steps))).setCell ⟨lb', j * 3 + 2, none⟩ (.int .i64 (inc q.t.looks)))).ownsRow 0 132 3 (.slice (some ⟨lb', 0, none⟩) M.qs.length c') M.qs.length (thVs (M.qs.set j ⟨q.d, fs2, ⟨z.x, (inc q.t.steps), (inc q.t.looks)⟩⟩)) := by
        have := hst2
        rwa [← thVs_same (l := M.qs.set j ⟨q.d, fs2, ⟨q.t.x, (inc q.t.steps), (inc q.t.looks)⟩⟩) (j := j) (x := ⟨q.d, fs2, ⟨q.t.x, (inc q.t.steps), (inc q.t.looks)⟩⟩) (y := ⟨q.d, fs2, ⟨z.x, (inc q.t.steps), (inc q.t.looks)⟩⟩) (by simp [hj]) rfl, List.set_set] at this
      clear hst1 hst2 hown2 e0 e1 e2 ef el hb2 hr2 hs1 f0 f1 f2 g1
      generalize ((w2.setCell ⟨lb', j * 3 + 1, none⟩ (.int .i64 (inc q.t.steps))).setCell ⟨lb', j * 3 + 2, none⟩ (.int .i64 (inc q.t.looks))) = w4 at *
      have hdn4 := fun W (hW : ProgAt W q.d fs2 z.x) => p_done hW
      have hac4 := fun W hW => oaccess_ok (w.heap.size + 1) M.b z.s.2.k z.s.2.i z.s.2.b z.s.2.a W hW
      refine wp_region_D (fun w' => w'.cell? ⟨lb', j * 3, none⟩ = some q.d.v) [10] (by kernel_rfl) ?hsb (fun hHeld => ?hrb)
      case hsb => exact (by go_cell)
      case hrb =>
        have hHs := hHeld
        clear hHeld
        refine takeD_pure (i := 0) (v := ?vb1) rfl (by kernel_rfl) (by kernel_rfl) (by kernel_rfl) (by kernel_rfl) (fun _ _ _ h => h) (by rfl) ?yb1 (fun _ => hHs) ?rb1
        case yb1 => (intro w; go_simp; (try with_reducible rfl))
        case rb1 =>
          try simp only [Act.put, List.setIfInBounds_toArray, List.set_cons_zero, List.set_cons_succ]
          refine takeD_pure (i := 1) (v := ?vb2) rfl (by kernel_rfl) (by kernel_rfl) (by kernel_rfl) (by kernel_rfl) (fun _ _ _ h => h) (by rfl) ?yb2 (fun _ => hHs) ?rb2
          case yb2 => (intro w; go_simp; (try with_reducible rfl))
          case rb2 =>
            try simp only [Act.put, List.setIfInBounds_toArray, List.set_cons_zero, List.set_cons_succ]
            refine takeD_pure (i := 3) (v := ?vb3) rfl (by kernel_rfl) (by kernel_rfl) (by kernel_rfl) (by kernel_rfl) (fun _ _ _ h => h) (by rfl) ?yb3 (fun _ => hHs) ?rb3
            case yb3 => (intro w; go_simp; (try with_reducible rfl))
            case rb3 =>
              try simp only [Act.put, List.setIfInBounds_toArray, List.set_cons_zero, List.set_cons_succ]
              refine takeD_pure (i := 4) (v := ?vb4) rfl (by kernel_rfl) (by kernel_rfl) (by kernel_rfl) (by kernel_rfl) (fun _ _ _ h => h) (by rfl) ?yb4 (fun _ => hHs) ?rb4
              case yb4 => (intro w; go_simp; (try with_reducible rfl))
              case rb4 =>
                try simp only [Act.put, List.setIfInBounds_toArray, List.set_cons_zero, List.set_cons_succ]
                refine takeD_pure (i := 5) (v := ?vb5) rfl (by kernel_rfl) (by kernel_rfl) (by kernel_rfl) (by kernel_rfl) (fun _ _ _ h => h) (by rfl) ?yb5 (fun _ => hHs) ?rb5
                case yb5 => (intro w; go_simp; (try with_reducible rfl))
                case rb5 =>
                  try simp only [Act.put, List.setIfInBounds_toArray, List.set_cons_zero, List.set_cons_succ]
                  refine takeD_pure (i := 6) (v := ?vb6) rfl (by kernel_rfl) (by kernel_rfl) (by kernel_rfl) (by kernel_rfl) (fun _ _ _ h => h) (by rfl) ?yb6 (fun _ => hHs) ?rb6
                  case yb6 => (intro w; go_simp; (try with_reducible rfl))
                  case rb6 =>
                    try simp only [Act.put, List.setIfInBounds_toArray, List.set_cons_zero, List.set_cons_succ]
                    refine takeD_load (i := 7) (v := ?vb7) rfl (by kernel_rfl) (by kernel_rfl) (by kernel_rfl) (by kernel_rfl) (by kernel_rfl) (by kernel_rfl) (fun _ _ _ h => h) (by rfl) ?yb7 hHs ?rb7
                    case yb7 => (intro w hSw; go_simp; (try with_reducible rfl))
                    case rb7 =>
                      try simp only [Act.put, List.setIfInBounds_toArray, List.set_cons_zero, List.set_cons_succ]
                      refine wpAnyD_ready (rs := [2]) (by kernel_rfl) (by simp) ?bb8
                      case bb8 =>
                        refine consD rfl (fun K hK => ?sb9) ?mb9
                        case sb9 =>
                          go_simp
                          refine (hac4 _ (hO4.keep (Ch.of_below (by (repeat' (first | (with_reducible exact Below.refl _ _) | (with_reducible assumption) | (with_reducible refine Below.alloc ?_ ?_ _) | (with_reducible refine Below.drew ?_) | (with_reducible refine below_drewN ?_ _) | (with_reducible refine Below.setCell ?_ ?_ _) | (with_reducible refine Below.trans ?_ (Below.mono (by assumption) ?_)) | (first | go_size | (with_reducible exact Below.size (by assumption)) | (with_reducible exact Nat.le_trans (Below.size (by assumption)) (Below.size (by assumption))) | (refine Nat.le_trans (Below.size (by assumption)) ?_; go_size)))) : Below w4.heap.size w4 _) (fun _ => False)) (fun e => e))).mono ?_
                          rintro e w5 ⟨rfl, hb5⟩
                          go_wp2_with fail
                          have hHs := (Ch.of_below hb5 (fun _ => False)).keeps hHs (fun e => e)
                          refine hK.out _ _ (fun _ => hHs) ?nb9
                          case nb9 =>
                            clear hK K
                            try simp only [Act.put, List.setIfInBounds_toArray, List.set_cons_zero, List.set_cons_succ]
                            refine wpAnyD_ready (rs := [8]) (by kernel_rfl) (by simp) ?bb10
                            case bb10 =>
                              refine consD rfl (fun K hK => ?sb11) ?mb11
                              case sb11 =>
                                go_simp
                                with_reducible refine (hdn4 _ (hp4.below (by (repeat' (first | (with_reducible exact Below.refl _ _) | (with_reducible assumption) | (with_reducible refine Below.alloc ?_ ?_ _) | (with_reducible refine Below.drew ?_) | (with_reducible refine below_drewN ?_ _) | (with_reducible refine Below.setCell ?_ ?_ _) | (with_reducible refine Below.trans ?_ (Below.mono (by assumption) ?_)) | (first | go_size | (with_reducible exact Below.size (by assumption)) | (with_reducible exact Nat.le_trans (Below.size (by assumption)) (Below.size (by assumption))) | (refine Nat.le_trans (Below.size (by assumption)) ?_; go_size))))))).mono ?_
                                rintro e w6 ⟨rfl, rfl⟩
                                go_wp2_with fail
                                refine hK.out _ _ (fun _ => hHs) ?nb11
                                case nb11 =>
                                  clear hK K
                                  try simp only [Act.put, List.setIfInBounds_toArray, List.set_cons_zero, List.set_cons_succ]
                                  refine takeD_pure (i := 9) (v := ?vb12) rfl (by kernel_rfl) (by kernel_rfl) (by kernel_rfl) (by kernel_rfl) (fun _ _ _ h => h) (by rfl) ?yb12 (fun _ => hHs) ?rb12
                                  case yb12 => (intro w; go_simp; (try with_reducible rfl))
                                  case rb12 =>
                                    try simp only [Act.put, List.setIfInBounds_toArray, List.set_cons_zero, List.set_cons_succ]
                                    refine wpAnyD_ready (rs := [10]) (by kernel_rfl) (by simp) ?bb13
                                    case bb13 =>
                                      refine consD rfl (fun K hK => ?sb14) ?mb14
                                      case sb14 =>
                                        have hb54 : Below w4.heap.size w4 w5 := by (repeat' (first | (with_reducible exact Below.refl _ _) | (with_reducible assumption) | (with_reducible refine Below.alloc ?_ ?_ _) | (with_reducible refine Below.drew ?_) | (with_reducible refine below_drewN ?_ _) | (with_reducible refine Below.setCell ?_ ?_ _) | (with_reducible refine Below.trans ?_ (Below.mono (by assumption) ?_)) | (first | go_size | (with_reducible exact Below.size (by assumption)) | (with_reducible exact Nat.le_trans (Below.size (by assumption)) (Below.size (by assumption))) | (refine Nat.le_trans (Below.size (by assumption)) ?_; go_size))))
                                        have hr5 := hr4.keep (Ch.of_below hb54 (fun _ => False)) (fun e => e)
                                        have r0 := hr5.cell 0
                                        have r1 := hr5.cell 1
                                        have r2 := hr5.cell 2
                                        have r3 := hr5.cell 3
                                        have r4 := hr5.cell 4
                                        have r5 := hr5.cell 5
                                        have r6 := hr5.cell 6
                                        simp only [didZ, List.getElem?_cons_zero, List.getElem?_cons_succ] at r0 r1 r2 r3 r4 r5 r6
                                        have rf := hr5.frozen
                                        have rl5 := hr5.lt
                                        go_simp
                                        refine hK.out _ _ (noD_no (by kernel_rfl)) ?nb14
                                        case nb14 =>
                                          clear hK K
                                          try simp only [Act.put]
                                          refine takeD_pure (i := 11) (v := ?vb15) rfl (by kernel_rfl) (by kernel_rfl) (by kernel_rfl) (by kernel_rfl) (fun _ _ _ h => h) (by rfl) ?yb15 (noD_no (by kernel_rfl)) ?rb15
                                          case yb15 => (intro w; go_simp; (try with_reducible rfl))
                                          case rb15 =>
                                            try simp only [Act.put, List.setIfInBounds_toArray, List.set_cons_zero, List.set_cons_succ]
                                            refine wpAnyD_done (by kernel_rfl) ?_ _
                                            go_wp2_with fail
                                            refine bodyPost_ret (v := .tuple #[didV j z.s.2 true z.x.done, .int .i64 z.e]) (by simp [results, go_sem, r0, r1, r2, r3, r4, r5, r6, HZ.out]) rfl ?_
                                            refine ⟨by rw [HD.out, HW.out], ?_⟩
                                            rw [HT.out, HW.out]
                                            have hC4 : Ch (fun k => k = lb' ∨ k = w.heap.size) w2 w5 := (hset.mono (fun _ _ e => .inl e)).trans (Ch.of_below hb54 _) (fun _ _ e => e)
                                            refine HF.out w2 _ fs2 ⟨z.x, inc q.t.steps, (inc q.t.looks)⟩ z.s.1 z.s.2 hsub hp2 hOn hOn2 hC2 (((((((hC4.setCell (p := ⟨w.heap.size, 0, none⟩) (.inl (.inr rfl)) _).setCell (p := ⟨w.heap.size, 1, none⟩) (.inl (.inr rfl)) _).setCell (p := ⟨w.heap.size, 2, none⟩) (.inl (.inr rfl)) _).setCell (p := ⟨w.heap.size, 3, none⟩) (.inl (.inr rfl)) _).setCell (p := ⟨w.heap.size, 4, none⟩) (.inl (.inr rfl)) _).setCell (p := ⟨w.heap.size, 5, none⟩) (.inl (.inr rfl)) _).setCell (p := ⟨w.heap.size, 6, none⟩) (.inl (.inr rfl)) _) ?_
                                            rw [HLV.out]
                                            exact own_keep (own_keep hown4 (Ch.of_below hb54 (fun _ => False)) (fun _ _ _ e => e)) ((((((((Ch.refl (fun k => k = w.heap.size) w5).setCell (p := ⟨w.heap.size, 0, none⟩) (.inl rfl) _).setCell (p := ⟨w.heap.size, 1, none⟩) (.inl rfl) _).setCell (p := ⟨w.heap.size, 2, none⟩) (.inl rfl) _).setCell (p := ⟨w.heap.size, 3, none⟩) (.inl rfl) _).setCell (p := ⟨w.heap.size, 4, none⟩) (.inl rfl) _).setCell (p := ⟨w.heap.size, 5, none⟩) (.inl rfl) _).setCell (p := ⟨w.heap.size, 6, none⟩) (.inl rfl) _) (fun b hb _ e => by injection hb with hb; subst hb; exact hne e)
                                      case mb14 =>
                                        exact AllReadyD.nil
                              case mb11 =>
                                exact AllReadyD.nil
                        case mb9 =>
                          exact AllReadyD.nil
  · have hz1 : (z.e != 0) = true := by simpa using hz
    have hdr : didR j z = didV 0 note0 false false := by unfold didR; rw [if_neg hz]
    have htn : thrN q.t z = ⟨z.x, q.t.steps, q.t.looks⟩ := by unfold thrN; rw [if_neg hz]
    have HD := Lib.hid hdr
    have HT := Lib.hid htn
    clear hz hdr htn
    go_upto_region 12 with ((with_reducible refine hs1.mono ?_); rintro e w2 ⟨rfl, ⟨fs2, hsub, hp2⟩, hOn2, hC2⟩)
    have hr2 := hres1.keep hC2 hrvno
    have r0 := hr2.cell 0
    have r1 := hr2.cell 1
    have r2 := hr2.cell 2
    have r3 := hr2.cell 3
    have r4 := hr2.cell 4
    have r5 := hr2.cell 5
    have r6 := hr2.cell 6
    simp only [didZ, List.getElem?_cons_zero, List.getElem?_cons_succ] at r0 r1 r2 r3 r4 r5 r6
    have rf := hr2.frozen
    have rl := hr2.lt
    have hC3 : ∀ W' (u0 u1 u2 u3 u4 u5 u6 : Value), W' = ((((((w2.setCell ⟨w.heap.size, 0, none⟩ u0).setCell ⟨w.heap.size, 1, none⟩ u1).setCell ⟨w.heap.size, 2, none⟩ u2).setCell ⟨w.heap.size, 3, none⟩ u3).setCell ⟨w.heap.size, 4, none⟩ u4).setCell ⟨w.heap.size, 5, none⟩ u5).setCell ⟨w.heap.size, 6, none⟩ u6 → Ch (fun k => k = w.heap.size) w2 W' := fun W' u0 u1 u2 u3 u4 u5 u6 e => by
      subst e
      exact ((((((((Ch.refl (fun k => k = w.heap.size) w2).setCell (p := ⟨w.heap.size, 0, none⟩) (.inl rfl) u0).setCell (p := ⟨w.heap.size, 1, none⟩) (.inl rfl) u1).setCell (p := ⟨w.heap.size, 2, none⟩) (.inl rfl) u2).setCell (p := ⟨w.heap.size, 3, none⟩) (.inl rfl) u3).setCell (p := ⟨w.heap.size, 4, none⟩) (.inl rfl) u4).setCell (p := ⟨w.heap.size, 5, none⟩) (.inl rfl) u5).setCell (p := ⟨w.heap.size, 6, none⟩) (.inl rfl) u6)
    have HC3 := Lib.hid hC3
    clear hC3
    go_wp2
    refine bodyPost_ret (v := .tuple #[didV 0 note0 false false, .int .i64 z.e]) (by simp [results, go_sem, r0, r1, r2, r3, r4, r5, r6]) rfl ?_
    have hCh := HC3.out _ (.int .i64 0) (.int .i64 0) (.int .i64 0) (.int .u64 0) (.int .u64 0) (.bool false) (.bool false) rfl
    refine ⟨by rw [HD.out], ?_⟩
    rw [HT.out]
    refine HF.out w2 _ fs2 ⟨z.x, q.t.steps, q.t.looks⟩ z.s.1 z.s.2 hsub hp2 hOn hOn2 hC2 (hCh.mono (fun _ _ e => .inr e)) ?_
    rw [thVs_same (y := ⟨q.d, fs2, ⟨z.x, q.t.steps, q.t.looks⟩⟩) hq rfl]
    exact own_keep (own_keep hown1 hC2 (fun b hb _ => by rw [HLV.out] at hb; injection hb with hb; subst hb; exact hlbno)) hCh (fun b hb _ e => by rw [HLV.out] at hb; injection hb with hb; subst hb; exact hne e)
end Go.Proofs.Ytmbofohdjdipdaa
