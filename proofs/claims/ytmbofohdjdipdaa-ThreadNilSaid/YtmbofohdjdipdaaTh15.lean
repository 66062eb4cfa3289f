/-
  Contracts of package thread: runs of a machine.
-/
import Derived.Test.YtmbofohdjdipdaaTh14
namespace Go.Proofs.Ytmbofohdjdipdaa
open Go.RowKit

def i64s (xs : List Int) : List Value := xs.map (.int .i64)
theorem i64s_at (xs : List Int) (k : Nat) (h : k < xs.length) : (i64s xs)[k]? = some (.int .i64 (xs.getD k 0)) := by
  simp [i64s, List.getD, List.getElem?_eq_getElem h]
theorem rd_i64 {G : Nat → Prop} {w : World} {A : Option Addr} {xs : List Int} (h : Rd G w A (i64s xs)) {k : Nat} (hk : k < xs.length) :
    ∃ b o, A = some ⟨b, o, none⟩ ∧ G b ∧ b < w.heap.size ∧ w.cell? ⟨b, o + k, none⟩ = some (.int .i64 (xs.getD k 0)) := by
  obtain ⟨b, o, e, hg, hl, hv⟩ := h (by intro e; have := i64s_at xs k hk; rw [e] at this; cases this)
  exact ⟨b, o, e, hg, hl, hv k _ (i64s_at xs k hk)⟩
theorem oStep_shares (ws : List Int) (x : Pg) : (oStep ws x).x.shares = x.shares := by
  unfold oStep Pg.step
  cases x with
  | code c =>
    dsimp only
    split <;> rfl
  | chain l =>
    cases l with
    | nil => rfl
    | cons c t =>
      dsimp only
      split <;> rfl
  | greedy x nb => rfl
abbrev noneF (r : Nat) : Value := .func (.func 61) #[.pointer (some ⟨r, 0, none⟩)] #[]
theorem index_picks (M : MaR) (ws : List Int) (A : Option Addr) (xs : List Int) (n c : Nat) (w : World) (h : MaAt w M ws) (hr : Rd (fun _ => True) w A (i64s xs)) (hl : xs.length = n) (hn : n ≤ 1000000) :
    Calls Try.prog 82 #[.slice A n c, noneF M.r] w fun e w' => w = w' ∧ ∃ i : Int, e = .returned (.int .i64 i) ∧ decide (0 ≤ i) = xs.any (noneB M.qs.length) := by
  subst hl
  have hno := fun t => manone_ok M ws t w h
  go_enter Try.func82, Try.ntmps82
  go_wp2_with fail
  go_loop [8] (fun v => ∃ k : Nat, k ≤ xs.length ∧ v = .int .i64 k ∧ (xs.take k).any (noneB M.qs.length) = false) (fun v => xs.length - (intOf v).toNat)
  case atStart => exact ⟨0, Nat.zero_le _, rfl, by simp⟩
  case round =>
    obtain ⟨k, hk, rfl, hall⟩ := hrel
    have HALL := Lib.hid hall
    clear hall
    by_cases hlt : k < xs.length
    · obtain ⟨b, o, rfl, _, hb, hc⟩ := rd_i64 hr hlt
      have hxk : xs[k]? = some (xs.getD k 0) := by rw [List.getElem?_eq_getElem hlt]; simp [hlt]
      have HS := Lib.hid (any_snoc (noneB M.qs.length) xs k _ hxk)
      have HM := Lib.hid (List.mem_of_getElem? hxk)
      generalize xs.getD k 0 = x at hc HS HM
      have hcall := hno x
      have i1 : (0 : Int) ≤ k := Int.natCast_nonneg _
      have i2 : (k : Int) < xs.length := by omega
      clear hxk
      cases hq : noneB M.qs.length x
      · rw [hq] at hcall
        have HQ := Lib.hid hq
        clear hq hno
        go_wp2_with (go_at_call 61; refine hcall.mono ?_; rintro e w1 ⟨rfl, rfl⟩)
        go_round
        case rel => exact ⟨k + 1, by omega, by go_num, by rw [HS.out, HALL.out, HQ.out]; rfl⟩
        case measure => simp [intOf]; omega
      · rw [hq] at hcall
        have HQ := Lib.hid hq
        clear hq hno
        go_wp2_with (go_at_call 61; refine hcall.mono ?_; rintro e w1 ⟨rfl, rfl⟩)
        go_ret
        exact ⟨rfl, k, rfl, by rw [decide_eq_true i1]; exact (List.any_eq_true.2 ⟨x, HM.out, HQ.out⟩).symm⟩
    · obtain rfl : k = xs.length := by omega
      have h1 := HALL.out
      rw [List.take_length] at h1
      have H1 := Lib.hid h1
      clear h1 HALL
      go_wp2
      go_ret
      exact ⟨rfl, -1, rfl, by rw [H1.out]; rfl⟩
theorem contains_picks (M : MaR) (ws : List Int) (A : Option Addr) (xs : List Int) (n c : Nat) (w : World) (h : MaAt w M ws) (hr : Rd (fun _ => True) w A (i64s xs)) (hl : xs.length = n) (hn : n ≤ 1000000) :
    Calls Try.prog 64 #[.slice A n c, noneF M.r] w fun e w' => e = .returned (.bool (xs.any (noneB M.qs.length))) ∧ w = w' := by
  have hi := index_picks M ws A xs n c w h hr hl hn
  generalize xs.any (noneB M.qs.length) = q at hi ⊢
  go_enter Try.func64, Try.ntmps64
  go_wp2_with fail
  refine hi.mono ?_
  rintro e w1 ⟨rfl, i, rfl, hq⟩
  have HQ := Lib.hid hq
  clear hq
  go_wp2_with fail
  go_ret
  exact ⟨ret_bool HQ.out, rfl⟩
theorem run_long (M : MaR) (ws : List Int) (A : Option Addr) (n c : Nat) (w : World) (h : MaAt w M ws) (hn : 100000 < n) :
    Calls Try.prog 18 #[.pointer (some ⟨M.r, 0, none⟩), .slice A n c] w fun e w' => e = .returned (.tuple #[.slice none 0 0, .int .i64 5]) ∧ w = w' := by
  have hz := mazero_ok M ws w h
  have d1 : decide ((100000 : Int) < n) = true := decide_eq_true (by omega)
  go_enter Try.func18, Try.ntmps18
  go_wp2_with (go_at_call 60; refine hz.mono ?_; rintro e w1 ⟨rfl, rfl⟩)
  go_ret2
  exact ⟨rfl, rfl⟩
theorem run_out (M : MaR) (ws : List Int) (A : Option Addr) (xs : List Int) (n c : Nat) (w : World) (h : MaAt w M ws) (hr : Rd (fun _ => True) w A (i64s xs)) (hl : xs.length = n) (hn : n ≤ 100000) (ho : xs.any (noneB M.qs.length) = true) :
    Calls Try.prog 18 #[.pointer (some ⟨M.r, 0, none⟩), .slice A n c] w fun e w' => e = .returned (.tuple #[.slice none 0 0, .int .i64 2]) ∧ w = w' := by
  have hz := mazero_ok M ws w h
  have hct := contains_picks M ws A xs n c w h hr hl (by omega)
  rw [ho] at hct
  have d1 : decide ((100000 : Int) < n) = false := decide_eq_false (by omega)
  clear ho hl
  go_enter Try.func18, Try.ntmps18
  go_wp2_with (first | (go_at_call 60; refine hz.mono ?_; rintro e w1 ⟨rfl, rfl⟩) | (go_at_call 64; refine hct.mono ?_; rintro e w1 ⟨rfl, rfl⟩))
  go_ret2
  exact ⟨rfl, rfl⟩
/-! ### a run -/
structure RS where
  ws : List Int
  ts : List Thr
  out : List Dd
  e : Int
def didD (j : Nat) (z : Res (List Int × Note)) : Dd := ⟨j, z.s.2.k, z.s.2.i, z.s.2.b, z.s.2.a, z.wt, z.x.done⟩
def rStep (s : RS) (t : Nat) : RS :=
  match s.ts[t]? with
  | none => s
  | some q => if q.x.done then s else if (oStep s.ws q.x).e = 0 then ⟨(oStep s.ws q.x).s.1, s.ts.set t (thrN q (oStep s.ws q.x)), s.out ++ [didD t (oStep s.ws q.x)], 0⟩ else { s with e := (oStep s.ws q.x).e }
def runS (s : RS) : List Nat → RS
  | [] => s
  | t :: p => if (rStep s t).e = 0 then runS (rStep s t) p else rStep s t
theorem rStep_some {s : RS} {t : Nat} {q : Thr} (h : s.ts[t]? = some q) : rStep s t = if q.x.done then s else if (oStep s.ws q.x).e = 0 then ⟨(oStep s.ws q.x).s.1, s.ts.set t (thrN q (oStep s.ws q.x)), s.out ++ [didD t (oStep s.ws q.x)], 0⟩ else { s with e := (oStep s.ws q.x).e } := by
  unfold rStep
  rw [h]
theorem drop_cons {l : List Nat} {k t : Nat} (h : l[k]? = some t) : l.drop k = t :: l.drop (k + 1) := by
  have hk := (List.getElem?_eq_some_iff.1 h).1
  have := (List.getElem?_eq_some_iff.1 h).2
  rw [List.drop_eq_getElem_cons hk, this]
/-- what a machine that runs has come to -/
structure RunI (W wr : World) (N : MaR) (s : RS) (v : Value) : Prop where
  below : Below W.heap.size W wr
  at_ : MaAt wr N s.ws
  ts : N.qs.map (·.t) = s.ts
  lo : ∀ k, N.foot k → W.heap.size ≤ k
  own : wr.ownsRow W.heap.size 47 7 v s.out.length (dds s.out)
  sh : ∀ q ∈ N.qs, q.t.x.shares = []
  e : s.e = 0
def maTy (t : TypeId) : Prop := t = 91 ∨ t = 158 ∨ t = 33 ∨ t = 132 ∨ progTy t
theorem MaAt.tyM {w : World} {M : MaR} {ws : List Int} (h : MaAt w M ws) : ∀ k, M.foot k → ∃ t cs, Blk w k t cs ∧ maTy t := fun k hk => by
  rcases hk with rfl | rfl | rfl | hk | ⟨q, hq, hk⟩
  · exact ⟨_, _, h.hd, .inl rfl⟩
  · exact ⟨_, _, h.mem.hd, .inr (.inl rfl)⟩
  · obtain ⟨sp, hr⟩ := h.mem.row
    exact ⟨_, _, hr, .inr (.inr (.inl rfl))⟩
  · obtain ⟨cs, hb⟩ := own_ty h.own hk
    exact ⟨_, _, hb, .inr (.inr (.inr (.inl rfl)))⟩
  · obtain ⟨t, cs, hb, ht⟩ := (h.pr q hq).ty k hk
    exact ⟨t, cs, hb, .inr (.inr (.inr (.inr ht)))⟩
/-- a block of another type is none of a machine's -/
theorem MaAt.notFoot {w : World} {M : MaR} {ws : List Int} (h : MaAt w M ws) {b : Nat} {t : TypeId} {cs : List Value} (hb : Blk w b t cs) (ht : ¬ maTy t) : ¬ M.foot b := fun hf => by
  obtain ⟨t', cs', hb', ht'⟩ := h.tyM b hf
  exact Blk.ne hb hb' (fun e => ht (e ▸ ht')) rfl
theorem didInfo : (Try.prog.info? 47).map (fun i => (i.zero, i.size, i.bytes)) = some (some (Dd.mk 0 0 0 0 0 false false).val, 7, 48) := by kernel_rfl
def RunP (w : World) (M : MaR) (ws : List Int) (s : RS) (e : Ending) (w' : World) : Prop :=
  if s.e = 0 then ∃ v, e = .returned (.tuple #[v, .int .i64 0]) ∧ w'.ownsRow w.heap.size 47 7 v s.out.length (dds s.out) ∧ ∃ M', MaAt w' M' s.ws ∧ M'.qs.map (·.t) = s.ts ∧ M'.r = M.r ∧ (∀ k, M'.foot k → k = M.r ∨ w.heap.size ≤ k) ∧ Ch (fun k => k = M.r) w w'
  else e = .returned (.tuple #[.slice none 0 0, .int .i64 s.e]) ∧ MaAt w' M ws ∧ Below w.heap.size w w'
set_option maxRecDepth 100000 in
set_option maxHeartbeats 4000000 in
theorem run_ok (M : MaR) (ws : List Int) (A : Option Addr) (ps : List Nat) (n c : Nat) (w : World) (h : MaAt w M ws) (hsh : ∀ q ∈ M.qs, q.t.x.shares = []) (hr : Rd (fun b => b < w.heap.size) w A (i64s (ps.map Int.ofNat))) (hl : ps.length = n) (hn : n ≤ 100000) (hp : ∀ p ∈ ps, p < M.qs.length) :
    Calls Try.prog 18 #[.pointer (some ⟨M.r, 0, none⟩), .slice A n c] w (RunP w M ws (runS ⟨ws, M.qs.map (·.t), [], 0⟩ ps)) := by
  subst hl
  obtain ⟨i0, hi0, hz0, hz1, hz2⟩ := info_parts didInfo
  have hz := mazero_ok M ws w h
  have hct := contains_picks M ws A (ps.map Int.ofNat) ps.length c w h (hr.mono (fun _ _ _ => trivial)) (by simp) (by omega)
  have hany : (ps.map Int.ofNat).any (noneB M.qs.length) = false := by
    rw [List.any_eq_false]
    intro x hx
    obtain ⟨p, hp', rfl⟩ := List.mem_map.1 hx
    rw [show Int.ofNat p = ((p : Nat) : Int) from rfl, noneB_in (hp p hp')]
    simp
  rw [hany] at hct
  have hcp := macopy_ok M ws w h hsh
  have d1 : decide ((100000 : Int) < ps.length) = false := decide_eq_false (by omega)
  have HP := Lib.hid hp
  have HSH := Lib.hid hsh
  clear hany hp hsh
  obtain ⟨S, hS⟩ : ∃ S, S = runS ⟨ws, M.qs.map (·.t), [], 0⟩ ps := ⟨_, rfl⟩
  rw [← hS]
  have HS := Lib.hid hS
  clear hS
  go_enter Try.func18, Try.ntmps18
  go_upto_region 8 with (first | (go_at_call 60; refine hz.mono ?_; rintro e w1 ⟨rfl, rfl⟩) | (go_at_call 64; refine hct.mono ?_; rintro e w1 ⟨rfl, rfl⟩) | (go_at_call 20; refine hcp.mono ?_; rintro e w1 ⟨hb1, N, rfl, hN, hNt, hNl⟩))
  have hI0 : RunI w w1 N ⟨ws, M.qs.map (·.t), [], 0⟩ (.slice none 0 0) := ⟨hb1, hN, hNt, hNl, own_none _ _ _ _, fun q hq => by
    have h1 : q.t ∈ M.qs.map (·.t) := by rw [← hNt]; exact List.mem_map_of_mem hq
    obtain ⟨p, hp, e⟩ := List.mem_map.1 h1
    rw [← e]
    exact HSH.out p hp, rfl⟩
  have HI0 := Lib.hid hI0
  have hNr : ∃ nr, nr = N.r := ⟨_, rfl⟩
  obtain ⟨nr, hnr⟩ := hNr
  rw [← hnr]
  have HNR := Lib.hid hnr
  clear hI0 hN hNt hNl hb1 hcp hct hz hnr
  go_wp2_with fail
  go_loopw [7, 28] (fun u7 v28 wr => ∃ (k : Nat) (N : MaR) (s : RS) (v7 : Value), v7 = u7 ∧ k ≤ ps.length ∧ v28 = .int .i64 k ∧ N.r = nr ∧ RunI w wr N s v7 ∧ runS s (ps.drop k) = S ∧ N.qs.length = M.qs.length ∧ s.out.length ≤ k) (fun _ v28 _ => ps.length - (intOf v28).toNat)
  case atStart => exact ⟨0, N, _, _, rfl, Nat.zero_le _, rfl, HNR.out.symm, HI0.out, HS.out.symm, by have := congrArg List.length HI0.out.ts; simpa using this, Nat.le_refl _⟩
  case round =>
    clear HI0 HNR
    obtain ⟨k, N, s, v7, rfl, hk, rfl, rfl, hI, hrun, hnl, hol⟩ := hrel
    have HRUN := Lib.hid hrun
    have HNL := Lib.hid hnl
    clear hrun hnl
    have hat := hI.at_
    by_cases hlt : k < ps.length
    · obtain ⟨b0, o0, rfl, hb0, hcell⟩ := (hr.keep (Ch.of_below hI.below (fun _ => False)) (fun _ _ _ e => e)).at (j := k) (by simpa [i64s] using hlt)
      obtain ⟨t, ht⟩ : ∃ t, ps[k]? = some t := ⟨_, List.getElem?_eq_getElem hlt⟩
      have hcell2 : wr.cell? ⟨b0, o0 + k, none⟩ = some (.int .i64 (t : Int)) := by
        rw [hcell]
        have := (List.getElem?_eq_some_iff.1 ht).2
        simp [i64s, this]
      have htl : t < N.qs.length := by rw [HNL.out]; exact HP.out t (List.mem_of_getElem? ht)
      obtain ⟨q, hq⟩ : ∃ q, N.qs[t]? = some q := ⟨_, List.getElem?_eq_getElem htl⟩
      have hqs : s.ts[t]? = some q.t := by rw [← hI.ts, List.getElem?_map, hq]; rfl
      have hrs := rStep_some hqs
      have hru := HRUN.out
      rw [drop_cons ht] at hru
      unfold runS at hru
      rw [hrs] at hru
      have HRU := Lib.hid hru
      obtain ⟨lb, cc, hlv, hcl, hcm, _, e0, e1, e2⟩ := hat.at hq
      have c1 := hat.c1
      rw [hlv] at c1
      have hpr := hat.pr q (List.mem_of_getElem? hq)
      have hok := hpr.ok
      have z1 := hok.nd
      have z2 := hok.md
      have z3 := hok.kd
      have hdn := p_done hpr
      have i1 : (0 : Int) ≤ k := Int.natCast_nonneg _
      have i2 : (k : Int) < ps.length := by omega
      have i3 : (0 : Int) ≤ t := Int.natCast_nonneg _
      have i4 : (t : Int) < N.qs.length := by omega
      have hbz := hI.below.size
      have HQ := Lib.hid hq
      have HQS := Lib.hid hqs
      clear hcell ht hrs hru hlv hqs hq
      cases hd : q.t.x.done
      · rw [hd] at hdn
        have HD := Lib.hid hd
        have hst := step_ok N s.ws t q wr hat HQ.out hd
        obtain ⟨z, hz⟩ : ∃ z, z = oStep s.ws q.t.x := ⟨_, rfl⟩
        have HZ := Lib.hid hz
        rw [← hz] at hst
        clear hd hz
        by_cases he : z.e = 0
        · have hdr : didR t z = (didD t z).val := by unfold didR; rw [if_pos he]; rfl
          rw [hdr, he] at hst
          have hru2 : runS ⟨z.s.1, s.ts.set t (thrN q.t z), s.out ++ [didD t z], 0⟩ (ps.drop (k + 1)) = S := by
            have := HRU.out
            rw [HD.out] at this
            simp only [Bool.false_eq_true, if_false] at this
            rw [← HZ.out, if_pos he] at this
            simpa using this
          have HRU2 := Lib.hid hru2
          have HE := Lib.hid he
          clear hdr he hru2
          obtain ⟨D, hD⟩ : ∃ D, D = didD t z := ⟨_, rfl⟩
          rw [← hD] at hst
          have hDc : D.val = .agg D.cells.toArray := rfl
          have HDD := Lib.hid hD
          obtain ⟨dt, dk, dw, db, da, dwt, den⟩ := D
          simp only [Dd.val, Dd.cells] at hst
          clear hD hDc
          go_upto_region 16 with (first | ((with_reducible refine hdn.mono ?_); rintro e w1 ⟨rfl, rfl⟩) | (go_at_call 16; refine hst.mono ?_; rintro e w2 ⟨rfl, N2, hN2, hNt2, hNr2, hNf2, hNc2⟩))
          have hzc := hNc2.size
          have hbW2 : Below w.heap.size wr w2 := hNc2.below (fun k _ hf => hI.lo k hf) hI.below.size
          have hvN : ∀ b, v7.ownBlock = some b → ¬ N.foot b := fun b hb => by
            obtain ⟨cs, hB⟩ := own_ty hI.own hb
            exact hat.notFoot hB (by unfold maTy progTy; decide)
          have hown2 : w2.ownsRow w.heap.size 47 7 v7 s.out.length (dds s.out) := own_keep hI.own hNc2 (fun b hb _ => hvN b hb)
          have hout : s.out.length ≤ 100000 := by omega
          have hown7 : ((w2.alloc (.cells (Dd.cells ⟨dt, dk, dw, db, da, dwt, den⟩).toArray 47)).alloc (.cells (Dd.cells ⟨dt, dk, dw, db, da, dwt, den⟩).toArray 47)).ownsRow w.heap.size 47 7 v7 s.out.length (dds s.out) :=
            own_keep (own_keep hown2 ((Ch.refl (fun _ => False) _).alloc _) (fun _ _ _ e => e)) ((Ch.refl (fun _ => False) _).alloc _) (fun _ _ _ e => e)
          have hnew7 : Rd (fun _ => True) ((w2.alloc (.cells (Dd.cells ⟨dt, dk, dw, db, da, dwt, den⟩).toArray 47)).alloc (.cells (Dd.cells ⟨dt, dk, dw, db, da, dwt, den⟩).toArray 47)) (some ⟨w2.heap.size + 1, 0, none⟩) (Dd.cells ⟨dt, dk, dw, db, da, dwt, den⟩) := by
            have h1 := Blk.new (w2.alloc (.cells (Dd.cells ⟨dt, dk, dw, db, da, dwt, den⟩).toArray 47)) 47 (Dd.cells ⟨dt, dk, dw, db, da, dwt, den⟩)
            rw [World.size_alloc] at h1
            exact Rd.of_blk h1 (List.prefix_refl _) trivial
          go_wp2_with (at_builtin; refine wpList_append_rd _ rfl _ _ _ rfl w.heap.size 47 i0 _ 7 48 Try.underlying52 hi0 hz0 hz1 hz2 rfl (by omega) v7 s.out.length (dds s.out) rfl hown7 (some ⟨w2.heap.size + 1, 0, none⟩) 1 1 (Dd.cells ⟨dt, dk, dw, db, da, dwt, den⟩) rfl hnew7 (fun h => by cases h) rfl (by simp [Dd.cells, Value.oneCell']) (by unfold maxLen; omega) (by omega) (by simp only [World.size_alloc]; omega) ?_)
          intro v8 w8 hown8 hch8 _
          have hb8a : Below w2.heap.size w2 ((w2.alloc (.cells (Dd.cells ⟨dt, dk, dw, db, da, dwt, den⟩).toArray 47)).alloc (.cells (Dd.cells ⟨dt, dk, dw, db, da, dwt, den⟩).toArray 47)) := by (repeat' (first | (with_reducible exact Below.refl _ _) | (with_reducible assumption) | (with_reducible refine Below.alloc ?_ ?_ _) | (with_reducible refine Below.drew ?_) | (with_reducible refine below_drewN ?_ _) | (with_reducible refine Below.setCell ?_ ?_ _) | (with_reducible refine Below.trans ?_ (Below.mono (by assumption) ?_)) | (first | go_size | (with_reducible exact Below.size (by assumption)) | (with_reducible exact Nat.le_trans (Below.size (by assumption)) (Below.size (by assumption))) | (refine Nat.le_trans (Below.size (by assumption)) ?_; go_size))))
          have hN8a := hN2.below hb8a
          have own8a := own_keep hown2 (Ch.of_below hb8a (fun _ => False)) (fun _ _ _ e => e)
          have hm8 : Mut ((w2.alloc (.cells (Dd.cells ⟨dt, dk, dw, db, da, dwt, den⟩).toArray 47)).alloc (.cells (Dd.cells ⟨dt, dk, dw, db, da, dwt, den⟩).toArray 47)) (fun k => v7.ownBlock = some k) := fun k hk _ => by
            obtain ⟨cs, hB⟩ := own_ty own8a hk
            exact ⟨_, _, hB, by unfold fixTy; decide⟩
          have hN8 := hN8a.keep hch8 hm8 (fun k hf hk => by
            obtain ⟨cs, hB⟩ := own_ty own8a hk
            exact hN8a.notFoot hB (by unfold maTy progTy; decide) hf)
          have hbW8 : Below w.heap.size wr w8 := (hbW2.trans (hb8a.mono (Nat.le_trans hbz hzc))).trans (hch8.below (fun j _ e => ownB_ge own8a e) (by simp only [World.size_alloc]; omega))
          have hI8 : RunI w w8 N2 ⟨z.s.1, s.ts.set t (thrN q.t z), s.out ++ [didD t z], 0⟩ v8 := by
            refine ⟨hI.below.trans hbW8, hN8, by rw [hNt2, hI.ts], fun k hk => ?_, ?_, fun p hp => ?_, rfl⟩
            · rcases hNf2 k hk with e | e | e
              · exact hI.lo k e
              · exact Nat.le_trans hbz e
              · cases e
            · rw [← HDD.out]
              simp only [List.length_append, List.length_cons, List.length_nil, dds_append, dds_one]
              exact hown8
            · have h1 : p.t ∈ N2.qs.map (·.t) := List.mem_map_of_mem hp
              rw [hNt2] at h1
              rcases List.mem_or_eq_of_mem_set h1 with h1 | h1
              · obtain ⟨p2, hp2, e⟩ := List.mem_map.1 h1
                rw [← e]
                exact hI.sh p2 hp2
              · rw [h1]
                have : (thrN q.t z).x = z.x := by unfold thrN; split <;> rfl
                rw [this, HZ.out, oStep_shares]
                exact hI.sh q (List.mem_of_getElem? HQ.out)
          have hN2l : N2.qs.length = M.qs.length := by
            have := congrArg List.length hNt2
            simp only [List.length_map, List.length_set] at this
            rw [this, HNL.out]
          have HN2L := Lib.hid hN2l
          have HNR2 := Lib.hid hNr2
          obtain ⟨A8, c8, rfl, _, _⟩ := own_slice hown8
          clear hown8 hch8 hN8 hN8a own8a hown7 hown2 hnew7 hI hbW8 hN2l hNr2 hNt2
          go_wp2_with fail
          go_roundw
          case rel => exact ⟨k + 1, N2, _, _, rfl, by omega, by go_num, HNR2.out, hI8, HRU2.out, HN2L.out, by simp; omega⟩
          case measure => simp [intOf]; omega
        · have hdr : didR t z = didV 0 note0 false false := by unfold didR; rw [if_neg he]
          rw [hdr] at hst
          have hru2 : S.e = z.e := by
            have := HRU.out
            rw [HD.out] at this
            simp only [Bool.false_eq_true, if_false] at this
            rw [← HZ.out, if_neg he] at this
            rw [if_neg he] at this
            rw [← this]
          have HRU2 := Lib.hid hru2
          have he1 : (z.e != 0) = true := by simpa using he
          have HE := Lib.hid he
          clear hdr he hru2
          go_wp2_with (first | ((with_reducible refine hdn.mono ?_); rintro e w1 ⟨rfl, rfl⟩) | (go_at_call 16; refine hst.mono ?_; rintro e w2 ⟨rfl, N2, hN2, hNt2, hNr2, hNf2, hNc2⟩))
          have hbW2 : Below w.heap.size wr w2 := hNc2.below (fun k _ hf => hI.lo k hf) hI.below.size
          have hfin : ∀ W', Below w2.heap.size w2 W' → RunP w M ws S (.returned (.tuple #[.slice none 0 0, .int .i64 z.e])) W' := fun W' hb' => by
            have hbW' : Below w.heap.size w W' := (hI.below.trans hbW2).trans (hb'.mono (Nat.le_trans hbz hNc2.size))
            unfold RunP
            rw [if_neg (by rw [HRU2.out]; exact HE.out), HRU2.out]
            exact ⟨rfl, h.below hbW', hbW'⟩
          go_ret2
          exact hfin _ (by (repeat' (first | (with_reducible exact Below.refl _ _) | (with_reducible assumption) | (with_reducible refine Below.alloc ?_ ?_ _) | (with_reducible refine Below.drew ?_) | (with_reducible refine below_drewN ?_ _) | (with_reducible refine Below.setCell ?_ ?_ _) | (with_reducible refine Below.trans ?_ (Below.mono (by assumption) ?_)) | (first | go_size | (with_reducible exact Below.size (by assumption)) | (with_reducible exact Nat.le_trans (Below.size (by assumption)) (Below.size (by assumption))) | (refine Nat.le_trans (Below.size (by assumption)) ?_; go_size)))))
      · rw [hd] at hdn
        have hru2 : runS s (ps.drop (k + 1)) = S := by
          have := HRU.out
          rw [hd] at this
          simpa [hI.e] using this
        have HRU2 := Lib.hid hru2
        clear hd hru2
        go_wp2_with ((with_reducible refine hdn.mono ?_); rintro e w1 ⟨rfl, rfl⟩)
        go_roundw
        case rel => exact ⟨k + 1, N, s, _, rfl, by omega, by go_num, rfl, hI, HRU2.out, HNL.out, by omega⟩
        case measure => simp [intOf]; omega
    · obtain rfl : k = ps.length := by omega
      have hru := HRUN.out
      rw [List.drop_length] at hru
      obtain rfl : s = S := hru
      have c0 := hat.c0
      have c1 := hat.c1
      obtain ⟨A9, c9, h9⟩ := hat.lv
      rw [h9] at c1
      have hw := h.below hI.below
      have m0 := hw.c0
      have m1 := hw.c1
      have mf := hw.hd.frozen
      have ml := hw.hd.lt
      have hrr : ¬ N.foot M.r := fun e => by have := hI.lo _ e; have := h.hd.lt; omega
      have hne : M.r ≠ N.r := fun e => hrr (.inl e)
      have hne2 := hne.symm
      have hfin : ∀ W', W' = (wr.setCell ⟨M.r, 0, none⟩ (.pointer (some ⟨N.b, 0, none⟩))).setCell ⟨M.r, 1, none⟩ (.slice A9 N.qs.length c9) → RunP w M ws s (.returned (.tuple #[v7, .int .i64 0])) W' := fun W' e => by
        subst e
        have hset : Ch (fun k => k = M.r) wr ((wr.setCell ⟨M.r, 0, none⟩ (.pointer (some ⟨N.b, 0, none⟩))).setCell ⟨M.r, 1, none⟩ (.slice A9 N.qs.length c9)) := ((Ch.refl (fun k => k = M.r) wr).setCell (p := ⟨M.r, 0, none⟩) (.inl rfl) _).setCell (p := ⟨M.r, 1, none⟩) (.inl rfl) _
        have hm := Mut.one hw.hd (by unfold fixTy; decide)
        have hN' := hat.keep hset hm (fun k hf e => hrr (e ▸ hf))
        have hd' : Blk ((wr.setCell ⟨M.r, 0, none⟩ (.pointer (some ⟨N.b, 0, none⟩))).setCell ⟨M.r, 1, none⟩ (.slice A9 N.qs.length c9)) M.r 91 [.pointer (some ⟨N.b, 0, none⟩), N.lv] := by
          rw [h9]
          exact Blk.set (Blk.set hw.hd 0 _) 1 _
        unfold RunP
        rw [if_pos hI.e]
        refine ⟨v7, rfl, own_keep hI.own hset (fun b hb _ e => ?_), { N with r := M.r }, ⟨hd', hN'.mem, hN'.own, hN'.pr, hN'.dj, hN'.n64⟩, hI.ts, rfl, fun k hk => ?_, (Ch.of_below hI.below _).trans hset (fun _ _ e => e)⟩
        · subst e
          obtain ⟨cs, hB⟩ := own_ty hI.own hb
          exact Blk.ne hB hw.hd (by decide) rfl
        · rcases hk with e | e | e | e | e
          · exact .inl e
          · exact .inr (hI.lo k (.inr (.inl e)))
          · exact .inr (hI.lo k (.inr (.inr (.inl e))))
          · exact .inr (hI.lo k (.inr (.inr (.inr (.inl e)))))
          · exact .inr (hI.lo k (.inr (.inr (.inr (.inr e)))))
      have HF := Lib.hid hfin
      obtain ⟨A8, c8, rfl, _, _⟩ := own_slice hI.own
      clear hfin
      go_wp2
      go_ret2
      exact HF.out _ rfl
end Go.Proofs.Ytmbofohdjdipdaa
