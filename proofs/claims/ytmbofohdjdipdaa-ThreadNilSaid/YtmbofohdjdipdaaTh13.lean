/-
  Contracts of package thread: whether a thread waits, whether all do.
-/
import Derived.Test.YtmbofohdjdipdaaTh12
namespace Go.Proofs.Ytmbofohdjdipdaa
open Go.RowKit

/-- a step with an arena that is looked at -/
def pStep (ws : List Int) (x : Pg) : Res (List Int × Bool) := x.step (peekM 0 0 0 0) (ws, false)
theorem pStep_eq (o b g c : Nat) (ws : List Int) (x : Pg) : x.step (peekM o b g c) (ws, false) = pStep ws x := by
  unfold pStep
  cases x with
  | code c => rfl
  | chain l => cases l <;> rfl
  | greedy x nb => rfl
theorem peek_n (ws : List Int) (u : Bool) (c : Cd) (x : Ins) : ((peekM 0 0 0 0).n (ws, u) c x).1 = ws := by
  unfold Mif.n
  split <;> rfl
theorem pStep_ws (ws : List Int) (x : Pg) : (pStep ws x).s.1 = ws := by
  unfold pStep Pg.step
  cases x with
  | code c =>
    dsimp only
    split
    · rfl
    · exact peek_n ws false c c.cur
  | chain l =>
    cases l with
    | nil => rfl
    | cons c t =>
      dsimp only
      split
      · rfl
      · exact peek_n ws false c c.cur
  | greedy x nb =>
    dsimp only
    unfold grS accN
    split <;> rfl
def waitsB (ws : List Int) (x : Pg) : Bool := !x.done && ((pStep ws x).e == 0 && (pStep ws x).wt)
def MaSame (w : World) (M : MaR) (ws : List Int) (v : Value) (e : Ending) (w' : World) : Prop := e = .returned v ∧ MaAt w' M ws ∧ Ch (fun k => k = M.b ∨ k = M.g) w w'
theorem waits_done (M : MaR) (ws : List Int) (j : Nat) (q : ThR) (w : World) (h : MaAt w M ws) (hq : M.qs[j]? = some q) (hd : q.t.x.done = true) :
    Calls Try.prog 36 #[.pointer (some ⟨M.r, 0, none⟩), .int .i64 j] w fun e w' => e = .returned (.bool false) ∧ w = w' := by
  have hj : j < M.qs.length := (List.getElem?_eq_some_iff.1 hq).1
  have hmn := manone_ok M ws j w h
  rw [noneB_in hj] at hmn
  obtain ⟨lb, c, hlv, hcl, hcm, ⟨sp, hbl⟩, e0, e1, e2⟩ := h.at hq
  have c1 := h.c1
  rw [hlv] at c1
  have hpr := h.pr q (List.mem_of_getElem? hq)
  have hok := hpr.ok
  have z1 := hok.nd
  have z2 := hok.md
  have z3 := hok.kd
  have i1 : (0 : Int) ≤ j := Int.natCast_nonneg _
  have i2 : (j : Int) < M.qs.length := by omega
  have hdn := p_done hpr
  rw [hd] at hdn
  clear hlv hd
  go_enter Try.func36, Try.ntmps36
  go_wp2_with (first | (go_at_call 61; refine hmn.mono ?_; rintro e w1 ⟨rfl, rfl⟩) | ((with_reducible refine hdn.mono ?_); rintro e w1 ⟨rfl, rfl⟩))
  go_ret
  exact ⟨rfl, rfl⟩
theorem peek_fin {w wp w2 : World} {M : MaR} {ws : List Int} {d2 : Pif} {fs2 : List Nat} {x : Pg} {pk : Nat} {u : Bool} (h : MaAt w M ws) (hb : Below w.heap.size w wp) (hp : ProgAt wp d2 fs2 x) (hfs : ∀ k ∈ fs2, w.heap.size ≤ k) (hpk : PkAt wp pk M.b M.g M.c ws false) (hpl : w.heap.size ≤ pk)
    (h2 : PkAt w2 pk M.b M.g M.c ws u) (hC : Ch (fun k => k ∈ fs2 ∨ (peekM pk M.b M.g M.c).own k) wp w2) : MaAt w2 M ws ∧ Ch (fun k => k = M.b ∨ k = M.g) w w2 := by
  have h1 := h.below hb
  have hA : (peekM pk M.b M.g M.c).At wp (ws, false) := hpk
  have hmut : Mut wp (fun k => k ∈ fs2 ∨ (peekM pk M.b M.g M.c).own k) := hp.mut.or ((peek_ok pk M.b M.g M.c).mut hA)
  have notF : ∀ k, M.foot k → k ≠ M.b → k ≠ M.g → ¬ (k ∈ fs2 ∨ (peekM pk M.b M.g M.c).own k) := fun k hf n1 n2 e => by
    have hl := h.lt k hf
    rcases e with e | e
    · have := hfs k e; omega
    · have e' : k = M.b ∨ k = M.g ∨ k = pk := e
      rcases e' with e | e | e
      · exact n1 e
      · exact n2 e
      · omega
  have tb : ∀ {t : TypeId} {cs : List Value} {k : Nat}, Blk wp k t cs → t ≠ 158 → k ≠ M.b := fun hB ht e => by
    subst e
    exact Blk.ne hB h1.mem.hd ht rfl
  have tg : ∀ {t : TypeId} {cs : List Value} {k : Nat}, Blk wp k t cs → t ≠ 33 → k ≠ M.g := fun hB ht e => by
    subst e
    obtain ⟨sp, hr⟩ := h1.mem.row
    exact Blk.ne hB hr ht rfl
  refine ⟨⟨h1.hd.keep hC (notF _ (.inl rfl) (tb h1.hd (by decide)) (tg h1.hd (by decide))), h2.1, own_keep h1.own hC (fun b hb' _ => ?_), fun q hq => ?_, h.dj, h.n64⟩, ?_⟩
  · obtain ⟨cs, hB⟩ := own_ty h1.own hb'
    exact notF b (.inr (.inr (.inr (.inl hb')))) (tb hB (by decide)) (tg hB (by decide))
  · have hpq := h1.pr q hq
    refine hpq.keep hC hmut (fun k hk => ?_)
    obtain ⟨t, cs, hB, ht⟩ := hpq.ty k hk
    exact notF k (.inr (.inr (.inr (.inr ⟨q, hq, hk⟩)))) (tb hB (fun e => by subst e; revert ht; unfold progTy; decide)) (tg hB (fun e => by subst e; revert ht; unfold progTy; decide))
  · refine (Ch.of_below hb _).trans hC (fun k hl e => ?_)
    rcases e with e | e
    · have := hfs k e; omega
    · have e' : k = M.b ∨ k = M.g ∨ k = pk := e
      rcases e' with e | e | e
      · exact .inl e
      · exact .inr e
      · omega
set_option maxRecDepth 100000 in
set_option maxHeartbeats 4000000 in
theorem waits_run (M : MaR) (ws : List Int) (j : Nat) (q : ThR) (w : World) (h : MaAt w M ws) (hq : M.qs[j]? = some q) (hd : q.t.x.done = false) (hsh : q.t.x.shares = []) :
    Calls Try.prog 36 #[.pointer (some ⟨M.r, 0, none⟩), .int .i64 j] w (MaSame w M ws (.bool ((pStep ws q.t.x).e == 0 && (pStep ws q.t.x).wt))) := by
  have hj : j < M.qs.length := (List.getElem?_eq_some_iff.1 hq).1
  have hmn := manone_ok M ws j w h
  rw [noneB_in hj] at hmn
  obtain ⟨lb, c, hlv, hcl, hcm, ⟨sp, hbl⟩, e0, e1, e2⟩ := h.at hq
  have c0 := h.c0
  have c1 := h.c1
  rw [hlv] at c1
  have hrl := h.hd.lt
  have hll := hbl.lt
  have hpr := h.pr q (List.mem_of_getElem? hq)
  have hok := hpr.ok
  have z1 := hok.nd
  have z2 := hok.md
  have z3 := hok.kd
  have y1 := hok.nc
  have y2 := hok.mc
  have y3 := hok.kc
  have i1 : (0 : Int) ≤ j := Int.natCast_nonneg _
  have i2 : (j : Int) < M.qs.length := by omega
  have hdn := p_done hpr
  rw [hd] at hdn
  have hcp := fun W (hW : ProgAt W q.d q.fs q.t.x) => p_copy hW
  obtain ⟨z, hz⟩ : ∃ z, z = pStep ws q.t.x := ⟨_, rfl⟩
  have hzw : z.s.1 = ws := by rw [hz]; exact pStep_ws ws q.t.x
  have hst : ∀ (pk : Nat) (d2 : Pif) (fs2 : List Nat) W, ProgAt W d2 fs2 q.t.x → PkAt W pk M.b M.g M.c ws false → Calls Try.prog d2.fs #[d2.p, .iface 152 (.pointer (some ⟨pk, 0, none⟩))] W (PStepP (peekM pk M.b M.g M.c) W d2 fs2 z) := fun pk d2 fs2 W h1 h2 => by
    rw [hz, ← pStep_eq pk M.b M.g M.c]
    exact p_step (peekM pk M.b M.g M.c) (peek_ok pk M.b M.g M.c) (ws, false) h1 h2
  rw [← hz]
  have HZW := Lib.hid hzw
  have HSH := Lib.hid hsh
  clear hlv hd hz hzw hsh
  go_enter Try.func36, Try.ntmps36
  go_upto_region 3 with (first | (go_at_call 61; refine hmn.mono ?_; rintro e w1 ⟨rfl, rfl⟩) | ((with_reducible refine hdn.mono ?_); rintro e w1 ⟨rfl, rfl⟩))
  go_cut [5, 6] (fun v5 v6 wx => v5 = .bool z.wt ∧ v6 = .int .i64 z.e ∧ MaAt wx M ws ∧ Ch (fun k => k = M.b ∨ k = M.g) w wx)
  case first =>
    have hrb : ¬ (M.r = M.b ∨ M.r = M.g) := by
      rintro (e | e)
      · exact Blk.ne h.hd h.mem.hd (by decide) e
      · obtain ⟨sp2, hr⟩ := h.mem.row
        exact Blk.ne h.hd hr (by decide) e
    have hlb : ¬ (lb = M.b ∨ lb = M.g) := by
      rintro (e | e)
      · exact Blk.ne hbl h.mem.hd (by decide) e
      · obtain ⟨sp2, hr⟩ := h.mem.row
        exact Blk.ne hbl hr (by decide) e
    refine wp_region_held_drew (S := (fun w' => w'.cell? ⟨M.r, 0, none⟩ = some (.pointer (some ⟨M.b, 0, none⟩)) ∧ w'.cell? ⟨M.r, 1, none⟩ = some (.slice (some ⟨lb, 0, none⟩) M.qs.length c) ∧ w'.cell? ⟨lb, j * 3, none⟩ = some q.d.v)) (by kernel_rfl) ?hs (fun hHeld => ?hr)
    case hs => exact ⟨by go_cell, by go_cell, by go_cell⟩
    case hr =>
      have hHs := hHeld
      clear hHeld
      refine take_yes (i := 0) (v := ?v1) rfl (by kernel_rfl) (by kernel_rfl) (by kernel_rfl) (fun _ _ _ h => h) (by rfl) ?y1 hHs ?r1
      case y1 => (intro w hSw; obtain ⟨s0, s1, s2⟩ := hSw; go_simp; (try with_reducible rfl))
      case r1 =>
        try simp only [Act.put, List.setIfInBounds_toArray, List.set_cons_zero, List.set_cons_succ]
        refine take_yes (i := 1) (v := ?v2) rfl (by kernel_rfl) (by kernel_rfl) (by kernel_rfl) (fun _ _ _ h => h) (by rfl) ?y2 hHs ?r2
        case y2 => (intro w hSw; obtain ⟨s0, s1, s2⟩ := hSw; go_simp; (try with_reducible rfl))
        case r2 =>
          try simp only [Act.put, List.setIfInBounds_toArray, List.set_cons_zero, List.set_cons_succ]
          refine take_yes (i := 2) (v := ?v3) rfl (by kernel_rfl) (by kernel_rfl) (by kernel_rfl) (fun _ _ _ h => h) (by rfl) ?y3 hHs ?r3
          case y3 => (intro w hSw; obtain ⟨s0, s1, s2⟩ := hSw; go_simp; (try with_reducible rfl))
          case r3 =>
            try simp only [Act.put, List.setIfInBounds_toArray, List.set_cons_zero, List.set_cons_succ]
            refine take_yes (i := 3) (v := ?v4) rfl (by kernel_rfl) (by kernel_rfl) (by kernel_rfl) (fun _ _ _ h => h) (by rfl) ?y4 hHs ?r4
            case y4 => (intro w hSw; obtain ⟨s0, s1, s2⟩ := hSw; go_simp; (try with_reducible rfl))
            case r4 =>
              try simp only [Act.put, List.setIfInBounds_toArray, List.set_cons_zero, List.set_cons_succ]
              refine take_yes (i := 4) (v := ?v5) rfl (by kernel_rfl) (by kernel_rfl) (by kernel_rfl) (fun _ _ _ h => h) (by rfl) ?y5 hHs ?r5
              case y5 => (intro w hSw; obtain ⟨s0, s1, s2⟩ := hSw; go_simp; (try with_reducible rfl))
              case r5 =>
                try simp only [Act.put, List.setIfInBounds_toArray, List.set_cons_zero, List.set_cons_succ]
                refine take_yes (i := 5) (v := ?v6) rfl (by kernel_rfl) (by kernel_rfl) (by kernel_rfl) (fun _ _ _ h => h) (by rfl) ?y6 hHs ?r6
                case y6 => (intro w hSw; obtain ⟨s0, s1, s2⟩ := hSw; go_simp; (try with_reducible rfl))
                case r6 =>
                  try simp only [Act.put, List.setIfInBounds_toArray, List.set_cons_zero, List.set_cons_succ]
                  refine take_yes (i := 6) (v := ?v7) rfl (by kernel_rfl) (by kernel_rfl) (by kernel_rfl) (fun _ _ _ h => h) (by rfl) ?y7 hHs ?r7
                  case y7 => (intro w hSw; obtain ⟨s0, s1, s2⟩ := hSw; go_simp; (try with_reducible rfl))
                  case r7 =>
                    try simp only [Act.put, List.setIfInBounds_toArray, List.set_cons_zero, List.set_cons_succ]
                    refine take_yes (i := 7) (v := ?v8) rfl (by kernel_rfl) (by kernel_rfl) (by kernel_rfl) (fun _ _ _ h => h) (by rfl) ?y8 hHs ?r8
                    case y8 => (intro w hSw; obtain ⟨s0, s1, s2⟩ := hSw; go_simp; (try with_reducible rfl))
                    case r8 =>
                      try simp only [Act.put, List.setIfInBounds_toArray, List.set_cons_zero, List.set_cons_succ]
                      refine take_yes (i := 9) (v := ?v9) rfl (by kernel_rfl) (by kernel_rfl) (by kernel_rfl) (fun _ _ _ h => h) (by rfl) ?y9 hHs ?r9
                      case y9 => (intro w hSw; obtain ⟨s0, s1, s2⟩ := hSw; go_simp; (try with_reducible rfl))
                      case r9 =>
                        try simp only [Act.put, List.setIfInBounds_toArray, List.set_cons_zero, List.set_cons_succ]
                        refine take_yes (i := 10) (v := ?v10) rfl (by kernel_rfl) (by kernel_rfl) (by kernel_rfl) (fun _ _ _ h => h) (by rfl) ?y10 hHs ?r10
                        case y10 => (intro w hSw; obtain ⟨s0, s1, s2⟩ := hSw; go_simp; (try with_reducible rfl))
                        case r10 =>
                          try simp only [Act.put, List.setIfInBounds_toArray, List.set_cons_zero, List.set_cons_succ]
                          refine take_yes (i := 11) (v := ?v11) rfl (by kernel_rfl) (by kernel_rfl) (by kernel_rfl) (fun _ _ _ h => h) (by rfl) ?y11 hHs ?r11
                          case y11 => (intro w hSw; obtain ⟨s0, s1, s2⟩ := hSw; go_simp; (try with_reducible rfl))
                          case r11 =>
                            try simp only [Act.put, List.setIfInBounds_toArray, List.set_cons_zero, List.set_cons_succ]
                            refine take_yes (i := 12) (v := ?v12) rfl (by kernel_rfl) (by kernel_rfl) (by kernel_rfl) (fun _ _ _ h => h) (by rfl) ?y12 hHs ?r12
                            case y12 => (intro w hSw; obtain ⟨s0, s1, s2⟩ := hSw; go_simp; (try with_reducible rfl))
                            case r12 =>
                              try simp only [Act.put, List.setIfInBounds_toArray, List.set_cons_zero, List.set_cons_succ]
                              refine take_yes (i := 13) (v := ?v13) rfl (by kernel_rfl) (by kernel_rfl) (by kernel_rfl) (fun _ _ _ h => h) (by rfl) ?y13 hHs ?r13
                              case y13 => (intro w hSw; obtain ⟨s0, s1, s2⟩ := hSw; go_simp; (try with_reducible rfl))
                              case r13 =>
                                try simp only [Act.put, List.setIfInBounds_toArray, List.set_cons_zero, List.set_cons_succ]
                                refine wpAnyH_ready (rs := [8, 14]) (by kernel_rfl) (by simp) ?b14
                                case b14 =>
                                  refine cons_l rfl (fun K hK => ?s15) ?m15
                                  case s15 =>
                                    go_simp
                                    have hbc : Below w.heap.size w w.drew := by (repeat' (first | (with_reducible exact Below.refl _ _) | (with_reducible assumption) | (with_reducible refine Below.alloc ?_ ?_ _) | (with_reducible refine Below.drew ?_) | (with_reducible refine below_drewN ?_ _) | (with_reducible refine Below.setCell ?_ ?_ _) | (with_reducible refine Below.trans ?_ (Below.mono (by assumption) ?_)) | (first | go_size | (with_reducible exact Below.size (by assumption)) | (with_reducible exact Nat.le_trans (Below.size (by assumption)) (Below.size (by assumption))) | (refine Nat.le_trans (Below.size (by assumption)) ?_; go_size))))
                                    refine (hcp _ (hpr.below hbc)).mono ?_
                                    rintro e w6 ⟨hb6, d2, fs2, rfl, hp6, hf6⟩
                                    go_wp2_with fail
                                    have hb06 : Below w.heap.size w w6 := hbc.trans (hb6.mono hbc.size)
                                    have hok2 := hp6.ok
                                    have n1 := hok2.ns
                                    have n2 := hok2.ms
                                    have n3 := hok2.ks
                                    have hfs2 : ∀ k ∈ fs2, w.heap.size ≤ k := fun k hk => (hf6 k hk).elim (fun e => Nat.le_trans hbc.size e) (fun e => by rw [HSH.out] at e; cases e)
                                    have hHs : w6.cell? ⟨M.r, 0, none⟩ = some (.pointer (some ⟨M.b, 0, none⟩)) ∧ w6.cell? ⟨M.r, 1, none⟩ = some (.slice (some ⟨lb, 0, none⟩) M.qs.length c) ∧ w6.cell? ⟨lb, j * 3, none⟩ = some q.d.v := ⟨(Ch.of_below hb06 (fun _ => False)).keeps c0 (fun e => e), (Ch.of_below hb06 (fun _ => False)).keeps c1 (fun e => e), (Ch.of_below hb06 (fun _ => False)).keeps e0 (fun e => e)⟩
                                    refine hK.out _ _ hHs (fun hHeld => ?n15)
                                    case n15 =>
                                      clear hK K hHs
                                      have hHs := hHeld
                                      try simp only [Act.put, List.setIfInBounds_toArray, List.set_cons_zero, List.set_cons_succ]
                                      refine take_yes (i := 16) (v := ?v16) rfl (by kernel_rfl) (by kernel_rfl) (by kernel_rfl) (fun _ _ _ h => h) (by rfl) ?y16 hHs ?r16
                                      case y16 => (intro w hSw; obtain ⟨s0, s1, s2⟩ := hSw; go_simp; (try with_reducible rfl))
                                      case r16 =>
                                        try simp only [Act.put, List.setIfInBounds_toArray, List.set_cons_zero, List.set_cons_succ]
                                        refine take_yes (i := 17) (v := ?v17) rfl (by kernel_rfl) (by kernel_rfl) (by kernel_rfl) (fun _ _ _ h => h) (by rfl) ?y17 hHs ?r17
                                        case y17 => (intro w hSw; obtain ⟨s0, s1, s2⟩ := hSw; go_simp; (try with_reducible rfl))
                                        case r17 =>
                                          try simp only [Act.put, List.setIfInBounds_toArray, List.set_cons_zero, List.set_cons_succ]
                                          refine take_yes (i := 18) (v := ?v18) rfl (by kernel_rfl) (by kernel_rfl) (by kernel_rfl) (fun _ _ _ h => h) (by rfl) ?y18 hHs ?r18
                                          case y18 => (intro w hSw; obtain ⟨s0, s1, s2⟩ := hSw; go_simp; (try with_reducible rfl))
                                          case r18 =>
                                            try simp only [Act.put, List.setIfInBounds_toArray, List.set_cons_zero, List.set_cons_succ]
                                            refine wpAnyH_ready (rs := [14]) (by kernel_rfl) (by simp) ?b19
                                            case b19 =>
                                              refine cons_l rfl (fun K hK => ?s20) ?m20
                                              case s20 =>
                                                go_simp
                                                have hbk : Below w.heap.size w w6 := hb06
                                                have hpk : PkAt (w6.alloc (.cells [Value.pointer (some ⟨M.b, 0, none⟩), .bool false].toArray 154)) w6.heap.size M.b M.g M.c ws false := ⟨((h.below hbk).below ((Below.refl _ _).alloc (Nat.le_refl _) _)).mem, Blk.new _ _ _⟩
                                                have hpl : w.heap.size ≤ w6.heap.size := hbk.size
                                                have hHs : (w6.alloc (.cells [Value.pointer (some ⟨M.b, 0, none⟩), .bool false].toArray 154)).cell? ⟨M.r, 0, none⟩ = some (.pointer (some ⟨M.b, 0, none⟩)) ∧ (w6.alloc (.cells [Value.pointer (some ⟨M.b, 0, none⟩), .bool false].toArray 154)).cell? ⟨M.r, 1, none⟩ = some (.slice (some ⟨lb, 0, none⟩) M.qs.length c) ∧ (w6.alloc (.cells [Value.pointer (some ⟨M.b, 0, none⟩), .bool false].toArray 154)).cell? ⟨lb, j * 3, none⟩ = some q.d.v := ⟨(((Ch.refl (fun _ => False) w6).alloc (.cells [Value.pointer (some ⟨M.b, 0, none⟩), .bool false].toArray 154))).keeps hHs.1 (fun e => e), (((Ch.refl (fun _ => False) w6).alloc (.cells [Value.pointer (some ⟨M.b, 0, none⟩), .bool false].toArray 154))).keeps hHs.2.1 (fun e => e), (((Ch.refl (fun _ => False) w6).alloc (.cells [Value.pointer (some ⟨M.b, 0, none⟩), .bool false].toArray 154))).keeps hHs.2.2 (fun e => e)⟩
                                                have hp6 := hp6.below ((Below.refl _ _).alloc (Nat.le_refl _) (.cells [Value.pointer (some ⟨M.b, 0, none⟩), .bool false].toArray 154))
                                                have hb06 := hb06.alloc hb06.size (.cells [Value.pointer (some ⟨M.b, 0, none⟩), .bool false].toArray 154)
                                                refine hK.out _ _ hHs (fun hHeld => ?n20)
                                                case n20 =>
                                                  clear hK K hHs
                                                  have hHs := hHeld
                                                  try simp only [Act.put, List.setIfInBounds_toArray, List.set_cons_zero, List.set_cons_succ]
                                                  refine take_yes (i := 15) (v := ?v21) rfl (by kernel_rfl) (by kernel_rfl) (by kernel_rfl) (fun _ _ _ h => h) (by rfl) ?y21 hHs ?r21
                                                  case y21 => (intro w hSw; obtain ⟨s0, s1, s2⟩ := hSw; go_simp; (try with_reducible rfl))
                                                  case r21 =>
                                                    try simp only [Act.put, List.setIfInBounds_toArray, List.set_cons_zero, List.set_cons_succ]
                                                    refine wpAnyH_ready (rs := [19]) (by kernel_rfl) (by simp) ?b22
                                                    case b22 =>
                                                      refine cons_l rfl (fun K hK => ?s23) ?m23
                                                      case s23 =>
                                                        go_simp
                                                        refine (hst w6.heap.size d2 fs2 _ hp6 hpk).mono ?_
                                                        rintro e w9 ⟨rfl, ⟨fs3, _, _⟩, hpk9, hC9⟩
                                                        go_wp2_with fail
                                                        have hpk9 : PkAt w9 w6.heap.size M.b M.g M.c ws z.s.2 := by have hq9 : PkAt w9 w6.heap.size M.b M.g M.c z.s.1 z.s.2 := hpk9; rw [HZW.out] at hq9; exact hq9
                                                        have hF := peek_fin h hb06 hp6 hfs2 hpk hpl hpk9 hC9
                                                        have hHs : w9.cell? ⟨M.r, 0, none⟩ = some (.pointer (some ⟨M.b, 0, none⟩)) ∧ w9.cell? ⟨M.r, 1, none⟩ = some (.slice (some ⟨lb, 0, none⟩) M.qs.length c) ∧ w9.cell? ⟨lb, j * 3, none⟩ = some q.d.v := ⟨hF.2.keeps c0 (fun e => hrb e), hF.2.keeps c1 (fun e => hrb e), hF.2.keeps e0 (fun e => hlb e)⟩
                                                        refine hK.out _ _ hHs (fun hHeld => ?n23)
                                                        case n23 =>
                                                          clear hK K hHs
                                                          have hHs := hHeld
                                                          try simp only [Act.put, List.setIfInBounds_toArray, List.set_cons_zero, List.set_cons_succ]
                                                          refine take_yes (i := 20) (v := ?v24) rfl (by kernel_rfl) (by kernel_rfl) (by kernel_rfl) (fun _ _ _ h => h) (by rfl) ?y24 hHs ?r24
                                                          case y24 => (intro w hSw; obtain ⟨s0, s1, s2⟩ := hSw; go_simp; (try with_reducible rfl))
                                                          case r24 =>
                                                            try simp only [Act.put, List.setIfInBounds_toArray, List.set_cons_zero, List.set_cons_succ]
                                                            refine take_yes (i := 21) (v := ?v25) rfl (by kernel_rfl) (by kernel_rfl) (by kernel_rfl) (fun _ _ _ h => h) (by rfl) ?y25 hHs ?r25
                                                            case y25 => (intro w hSw; obtain ⟨s0, s1, s2⟩ := hSw; go_simp; (try with_reducible rfl))
                                                            case r25 =>
                                                              try simp only [Act.put, List.setIfInBounds_toArray, List.set_cons_zero, List.set_cons_succ]
                                                              refine take_yes (i := 22) (v := ?v26) rfl (by kernel_rfl) (by kernel_rfl) (by kernel_rfl) (fun _ _ _ h => h) (by rfl) ?y26 hHs ?r26
                                                              case y26 => (intro w hSw; obtain ⟨s0, s1, s2⟩ := hSw; go_simp; (try with_reducible rfl))
                                                              case r26 =>
                                                                try simp only [Act.put, List.setIfInBounds_toArray, List.set_cons_zero, List.set_cons_succ]
                                                                refine take_yes (i := 23) (v := ?v27) rfl (by kernel_rfl) (by kernel_rfl) (by kernel_rfl) (fun _ _ _ h => h) (by rfl) ?y27 hHs ?r27
                                                                case y27 => (intro w hSw; obtain ⟨s0, s1, s2⟩ := hSw; go_simp; (try with_reducible rfl))
                                                                case r27 =>
                                                                  try simp only [Act.put, List.setIfInBounds_toArray, List.set_cons_zero, List.set_cons_succ]
                                                                  refine take_yes (i := 24) (v := ?v28) rfl (by kernel_rfl) (by kernel_rfl) (by kernel_rfl) (fun _ _ _ h => h) (by rfl) ?y28 hHs ?r28
                                                                  case y28 => (intro w hSw; obtain ⟨s0, s1, s2⟩ := hSw; go_simp; (try with_reducible rfl))
                                                                  case r28 =>
                                                                    try simp only [Act.put, List.setIfInBounds_toArray, List.set_cons_zero, List.set_cons_succ]
                                                                    refine wpAnyH_done (by kernel_rfl) ?_ _
                                                                    go_wp2_with fail
                                                                    go_meet
                                                                    exact ⟨rfl, rfl, hF.1, hF.2⟩
                                                      case m23 =>
                                                        exact AllReadyH.nil
                                              case m20 =>
                                                exact AllReadyH.nil
                                  case m15 =>
                                    refine cons_l rfl (fun K hK => ?s29) ?m29
                                    case s29 =>
                                      go_simp
                                      have hbk : Below w.heap.size w w.drew := by (repeat' (first | (with_reducible exact Below.refl _ _) | (with_reducible assumption) | (with_reducible refine Below.alloc ?_ ?_ _) | (with_reducible refine Below.drew ?_) | (with_reducible refine below_drewN ?_ _) | (with_reducible refine Below.setCell ?_ ?_ _) | (with_reducible refine Below.trans ?_ (Below.mono (by assumption) ?_)) | (first | go_size | (with_reducible exact Below.size (by assumption)) | (with_reducible exact Nat.le_trans (Below.size (by assumption)) (Below.size (by assumption))) | (refine Nat.le_trans (Below.size (by assumption)) ?_; go_size))))
                                      have hpk : PkAt (w.drew.alloc (.cells [Value.pointer (some ⟨M.b, 0, none⟩), .bool false].toArray 154)) w.drew.heap.size M.b M.g M.c ws false := ⟨((h.below hbk).below ((Below.refl _ _).alloc (Nat.le_refl _) _)).mem, Blk.new _ _ _⟩
                                      have hpl : w.heap.size ≤ w.drew.heap.size := hbk.size
                                      have hHs : (w.drew.alloc (.cells [Value.pointer (some ⟨M.b, 0, none⟩), .bool false].toArray 154)).cell? ⟨M.r, 0, none⟩ = some (.pointer (some ⟨M.b, 0, none⟩)) ∧ (w.drew.alloc (.cells [Value.pointer (some ⟨M.b, 0, none⟩), .bool false].toArray 154)).cell? ⟨M.r, 1, none⟩ = some (.slice (some ⟨lb, 0, none⟩) M.qs.length c) ∧ (w.drew.alloc (.cells [Value.pointer (some ⟨M.b, 0, none⟩), .bool false].toArray 154)).cell? ⟨lb, j * 3, none⟩ = some q.d.v := ⟨(((Ch.refl (fun _ => False) w.drew).alloc (.cells [Value.pointer (some ⟨M.b, 0, none⟩), .bool false].toArray 154))).keeps hHs.1 (fun e => e), (((Ch.refl (fun _ => False) w.drew).alloc (.cells [Value.pointer (some ⟨M.b, 0, none⟩), .bool false].toArray 154))).keeps hHs.2.1 (fun e => e), (((Ch.refl (fun _ => False) w.drew).alloc (.cells [Value.pointer (some ⟨M.b, 0, none⟩), .bool false].toArray 154))).keeps hHs.2.2 (fun e => e)⟩
                                      refine hK.out _ _ hHs (fun hHeld => ?n29)
                                      case n29 =>
                                        clear hK K hHs
                                        have hHs := hHeld
                                        try simp only [Act.put, List.setIfInBounds_toArray, List.set_cons_zero, List.set_cons_succ]
                                        refine take_yes (i := 15) (v := ?v30) rfl (by kernel_rfl) (by kernel_rfl) (by kernel_rfl) (fun _ _ _ h => h) (by rfl) ?y30 hHs ?r30
                                        case y30 => (intro w hSw; obtain ⟨s0, s1, s2⟩ := hSw; go_simp; (try with_reducible rfl))
                                        case r30 =>
                                          try simp only [Act.put, List.setIfInBounds_toArray, List.set_cons_zero, List.set_cons_succ]
                                          refine wpAnyH_ready (rs := [8]) (by kernel_rfl) (by simp) ?b31
                                          case b31 =>
                                            refine cons_l rfl (fun K hK => ?s32) ?m32
                                            case s32 =>
                                              go_simp
                                              have hbc : Below w.heap.size w (w.drew.alloc (.cells [Value.pointer (some ⟨M.b, 0, none⟩), .bool false].toArray 154)) := by (repeat' (first | (with_reducible exact Below.refl _ _) | (with_reducible assumption) | (with_reducible refine Below.alloc ?_ ?_ _) | (with_reducible refine Below.drew ?_) | (with_reducible refine below_drewN ?_ _) | (with_reducible refine Below.setCell ?_ ?_ _) | (with_reducible refine Below.trans ?_ (Below.mono (by assumption) ?_)) | (first | go_size | (with_reducible exact Below.size (by assumption)) | (with_reducible exact Nat.le_trans (Below.size (by assumption)) (Below.size (by assumption))) | (refine Nat.le_trans (Below.size (by assumption)) ?_; go_size))))
                                              refine (hcp _ (hpr.below hbc)).mono ?_
                                              rintro e w6 ⟨hb6, d2, fs2, rfl, hp6, hf6⟩
                                              go_wp2_with fail
                                              have hb06 : Below w.heap.size w w6 := hbc.trans (hb6.mono hbc.size)
                                              have hok2 := hp6.ok
                                              have n1 := hok2.ns
                                              have n2 := hok2.ms
                                              have n3 := hok2.ks
                                              have hfs2 : ∀ k ∈ fs2, w.heap.size ≤ k := fun k hk => (hf6 k hk).elim (fun e => Nat.le_trans hbc.size e) (fun e => by rw [HSH.out] at e; cases e)
                                              have hHs : w6.cell? ⟨M.r, 0, none⟩ = some (.pointer (some ⟨M.b, 0, none⟩)) ∧ w6.cell? ⟨M.r, 1, none⟩ = some (.slice (some ⟨lb, 0, none⟩) M.qs.length c) ∧ w6.cell? ⟨lb, j * 3, none⟩ = some q.d.v := ⟨(Ch.of_below hb06 (fun _ => False)).keeps c0 (fun e => e), (Ch.of_below hb06 (fun _ => False)).keeps c1 (fun e => e), (Ch.of_below hb06 (fun _ => False)).keeps e0 (fun e => e)⟩
                                              have hpk := hpk.keep (Ch.of_below hb6 (fun _ => False)) (fun e => e) (fun e => e) (fun e => e)
                                              refine hK.out _ _ hHs (fun hHeld => ?n32)
                                              case n32 =>
                                                clear hK K hHs
                                                have hHs := hHeld
                                                try simp only [Act.put, List.setIfInBounds_toArray, List.set_cons_zero, List.set_cons_succ]
                                                refine take_yes (i := 16) (v := ?v33) rfl (by kernel_rfl) (by kernel_rfl) (by kernel_rfl) (fun _ _ _ h => h) (by rfl) ?y33 hHs ?r33
                                                case y33 => (intro w hSw; obtain ⟨s0, s1, s2⟩ := hSw; go_simp; (try with_reducible rfl))
                                                case r33 =>
                                                  try simp only [Act.put, List.setIfInBounds_toArray, List.set_cons_zero, List.set_cons_succ]
                                                  refine take_yes (i := 17) (v := ?v34) rfl (by kernel_rfl) (by kernel_rfl) (by kernel_rfl) (fun _ _ _ h => h) (by rfl) ?y34 hHs ?r34
                                                  case y34 => (intro w hSw; obtain ⟨s0, s1, s2⟩ := hSw; go_simp; (try with_reducible rfl))
                                                  case r34 =>
                                                    try simp only [Act.put, List.setIfInBounds_toArray, List.set_cons_zero, List.set_cons_succ]
                                                    refine take_yes (i := 18) (v := ?v35) rfl (by kernel_rfl) (by kernel_rfl) (by kernel_rfl) (fun _ _ _ h => h) (by rfl) ?y35 hHs ?r35
                                                    case y35 => (intro w hSw; obtain ⟨s0, s1, s2⟩ := hSw; go_simp; (try with_reducible rfl))
                                                    case r35 =>
                                                      try simp only [Act.put, List.setIfInBounds_toArray, List.set_cons_zero, List.set_cons_succ]
                                                      refine wpAnyH_ready (rs := [19]) (by kernel_rfl) (by simp) ?b36
                                                      case b36 =>
                                                        refine cons_l rfl (fun K hK => ?s37) ?m37
                                                        case s37 =>
                                                          go_simp
                                                          refine (hst w.drew.heap.size d2 fs2 _ hp6 hpk).mono ?_
                                                          rintro e w9 ⟨rfl, ⟨fs3, _, _⟩, hpk9, hC9⟩
                                                          go_wp2_with fail
                                                          have hpk9 : PkAt w9 w.drew.heap.size M.b M.g M.c ws z.s.2 := by have hq9 : PkAt w9 w.drew.heap.size M.b M.g M.c z.s.1 z.s.2 := hpk9; rw [HZW.out] at hq9; exact hq9
                                                          have hF := peek_fin h hb06 hp6 hfs2 hpk hpl hpk9 hC9
                                                          have hHs : w9.cell? ⟨M.r, 0, none⟩ = some (.pointer (some ⟨M.b, 0, none⟩)) ∧ w9.cell? ⟨M.r, 1, none⟩ = some (.slice (some ⟨lb, 0, none⟩) M.qs.length c) ∧ w9.cell? ⟨lb, j * 3, none⟩ = some q.d.v := ⟨hF.2.keeps c0 (fun e => hrb e), hF.2.keeps c1 (fun e => hrb e), hF.2.keeps e0 (fun e => hlb e)⟩
                                                          refine hK.out _ _ hHs (fun hHeld => ?n37)
                                                          case n37 =>
                                                            clear hK K hHs
                                                            have hHs := hHeld
                                                            try simp only [Act.put, List.setIfInBounds_toArray, List.set_cons_zero, List.set_cons_succ]
                                                            refine take_yes (i := 20) (v := ?v38) rfl (by kernel_rfl) (by kernel_rfl) (by kernel_rfl) (fun _ _ _ h => h) (by rfl) ?y38 hHs ?r38
                                                            case y38 => (intro w hSw; obtain ⟨s0, s1, s2⟩ := hSw; go_simp; (try with_reducible rfl))
                                                            case r38 =>
                                                              try simp only [Act.put, List.setIfInBounds_toArray, List.set_cons_zero, List.set_cons_succ]
                                                              refine take_yes (i := 21) (v := ?v39) rfl (by kernel_rfl) (by kernel_rfl) (by kernel_rfl) (fun _ _ _ h => h) (by rfl) ?y39 hHs ?r39
                                                              case y39 => (intro w hSw; obtain ⟨s0, s1, s2⟩ := hSw; go_simp; (try with_reducible rfl))
                                                              case r39 =>
                                                                try simp only [Act.put, List.setIfInBounds_toArray, List.set_cons_zero, List.set_cons_succ]
                                                                refine take_yes (i := 22) (v := ?v40) rfl (by kernel_rfl) (by kernel_rfl) (by kernel_rfl) (fun _ _ _ h => h) (by rfl) ?y40 hHs ?r40
                                                                case y40 => (intro w hSw; obtain ⟨s0, s1, s2⟩ := hSw; go_simp; (try with_reducible rfl))
                                                                case r40 =>
                                                                  try simp only [Act.put, List.setIfInBounds_toArray, List.set_cons_zero, List.set_cons_succ]
                                                                  refine take_yes (i := 23) (v := ?v41) rfl (by kernel_rfl) (by kernel_rfl) (by kernel_rfl) (fun _ _ _ h => h) (by rfl) ?y41 hHs ?r41
                                                                  case y41 => (intro w hSw; obtain ⟨s0, s1, s2⟩ := hSw; go_simp; (try with_reducible rfl))
                                                                  case r41 =>
                                                                    try simp only [Act.put, List.setIfInBounds_toArray, List.set_cons_zero, List.set_cons_succ]
                                                                    refine take_yes (i := 24) (v := ?v42) rfl (by kernel_rfl) (by kernel_rfl) (by kernel_rfl) (fun _ _ _ h => h) (by rfl) ?y42 hHs ?r42
                                                                    case y42 => (intro w hSw; obtain ⟨s0, s1, s2⟩ := hSw; go_simp; (try with_reducible rfl))
                                                                    case r42 =>
                                                                      try simp only [Act.put, List.setIfInBounds_toArray, List.set_cons_zero, List.set_cons_succ]
                                                                      refine wpAnyH_done (by kernel_rfl) ?_ _
                                                                      go_wp2_with fail
                                                                      go_meet
                                                                      exact ⟨rfl, rfl, hF.1, hF.2⟩
                                                        case m37 =>
                                                          exact AllReadyH.nil
                                            case m32 =>
                                              exact AllReadyH.nil
                                    case m29 =>
                                      exact AllReadyH.nil
  case rest =>
    obtain ⟨rfl, rfl, k1, k2⟩ := hcut
    by_cases he : z.e = 0
    · have e1 : (z.e == 0) = true := by simpa using he
      have e2 := e1
      have HE := Lib.hid he
      clear he
      go_wp2
      go_ret
      exact ⟨by first | rfl | (rw [HE.out]; rfl), k1, k2⟩
    · have e1 : (z.e == 0) = false := by simpa using he
      clear he
      go_wp2
      go_ret
      exact ⟨by rw [e1]; rfl, k1, k2⟩
end Go.Proofs.Ytmbofohdjdipdaa
