/-
  Contracts of package thread: copies of chains, and new chains.
-/
import Derived.Test.YtmbofohdjdipdaaTh6
import Derived.Test.YtmbofohdjdipdaaDrawnD
import Derived.Deep.RegionLaw
namespace Go.Proofs.Ytmbofohdjdipdaa
open Go.RowKit

theorem step_append_rd {P : Program} {w : World} {ops : Array Oper} {o : Oper} {a : Act} {K : Act → World → Prop} {Q : Exit → Act → World → Prop} {E : Prop} (hgd : o.guard = none) (s x : Operand) (t : TypeId)
    (ho : o.op = .call { callee := .builtin .append, args := #[s, x], argTypes := #[t, t] })
    (base : Nat) (e : TypeId) (i : TypeInfo) (z : Value) (size bytes : Nat) (ht : P.underlying t = some (.slice e)) (hi : P.info? e = some i) (hz : i.zero = some z)
    (hsize : i.size = size) (hby : i.bytes = bytes) (hzs : z.cells.size = size) (hsz : 0 < size)
    (v : Value) (n : Nat) (xs : List Value) (hs : a.eval s = v) (hown : w.ownsRow base e size v n xs) {G : Nat → Prop} (A : Option Addr) (m c : Nat) (news : List Value) (hx : a.eval x = .slice A m c) (hr : Rd G w A news) (hA : A = none → c = 0)
    (hl : news.length = m * size) (h1 : ∀ u ∈ news, u.oneCell' = true) (h63 : n + m ≤ maxLen) (hbytes : (n + m) * bytes ≤ 140737488355328) (hbase : base ≤ w.heap.size)
    (h : ∀ v' w', w'.ownsRow base e size v' (n + m) (xs ++ news) → Ch (fun k => v.ownBlock = some k) w w' → (v'.ownBlock = v.ownBlock ∨ v'.ownBlock = some w.heap.size) → K (a.put o.dst v') w') :
    if Region.wanted o (yielded ops a.tmps) = true then Oper.wp P o a w K Q else E := by
  have hw : Region.wanted o (yielded ops a.tmps) = true := by simp [Region.wanted, hgd]
  rw [if_pos hw]
  obtain ⟨v', w', hrun, h2, h3, h4⟩ := run_append_rd (P := P) w base t o.type e i z size bytes ht hi hz hsize hby hzs hsz v n xs hown A m c news hr hA hl h1 h63 hbytes hbase
  unfold Oper.wp
  simp [execOp, ho, resolve, invoke, builtin, hs, hx, hrun, Result.andThen]
  exact h v' w' h2 h3 h4
theorem own_ty {w : World} {base n size k : Nat} {e : TypeId} {v : Value} {xs : List Value} (h : w.ownsRow base e size v n xs) (hk : v.ownBlock = some k) : ∃ cs, Blk w k e cs := by
  rcases h.2 with ⟨rfl, _⟩ | ⟨g, cap, cur, rfl, hg, hc, h1, h2, h3, h4⟩
  · cases hk
  · injection hk with hk
    subst hk
    exact ⟨cur.toList, by unfold Blk; simpa using hc⟩
theorem ownB_ge {v : Value} {base n j : Nat} {w : World} {e : TypeId} {size : Nat} {xs : List Value} (h : w.ownsRow base e size v n xs) (hj : v.ownBlock = some j) : base ≤ j := by
  rcases h.2 with ⟨rfl, _⟩ | ⟨g', cap, cur, rfl, hb, _⟩
  · simp [Value.ownBlock] at hj
  · simp [Value.ownBlock] at hj; omega
theorem progInfo : (Try.prog.info? 62).map (fun i => (i.zero, i.size, i.bytes)) = some (some .nilIface, 1, 16) := by kernel_rfl
theorem CdAt.keepT {F : Nat → Prop} {w w' : World} {r i cap : Nat} {c : Cd} (h : CdAt w r i cap c) (hc : Ch F w w') (hr : ¬ F r) (hF : ∀ k, F k → k < w.heap.size → ∃ t cs, Blk w k t cs ∧ t ≠ 70) : CdAt w' r i cap c := by
  obtain ⟨sp, hs⟩ := h.il
  refine h.keep hc hr (fun hi => ?_)
  obtain ⟨t, cs, hb, ht⟩ := hF i hi hs.lt
  exact Blk.ne hb hs ht rfl
/-- a chain that is being filled with codes of its own -/
structure CpS (W wr : World) (ob : Nat) (cs : List Cd) (ps : List CdR) (v : Value) : Prop where
  below : Below W.heap.size W wr
  bl : Blk wr ob 147 [v]
  own : wr.ownsRow W.heap.size 62 1 v ps.length (ps.map (fun q => codeI q.r))
  eq : ps.map (·.c) = cs
  cd : ∀ p ∈ ps, CdAt wr p.r p.i p.cap p.c
  lo : ∀ p ∈ ps, W.heap.size ≤ p.r
  nd : (ps.map (·.r)).Nodup
  ol : W.heap.size ≤ ob
theorem CpS.add {W wr wa w6 w8 : World} {ob n i cap : Nat} {cs : List Cd} {ps : List CdR} {v v8 : Value} {c : Cd} (h : CpS W wr ob cs ps v) (ha : Below wr.heap.size wr wa) (h6 : Below wa.heap.size wa w6) (hn : CdAt w6 n i cap c) (hnl : wa.heap.size ≤ n)
    (T : TypeId) (xs : Array Value) (h8 : Ch (fun k => v.ownBlock = some k) (w6.alloc (.cells xs T)) w8) (hown : w8.ownsRow W.heap.size 62 1 v8 (ps.length + 1) (ps.map (fun q => codeI q.r) ++ [codeI n])) :
    CpS W (w8.setCell ⟨ob, 0, none⟩ v8) ob (cs ++ [c]) (ps ++ [⟨n, i, cap, c⟩]) v8 := by
  have hb6 : Below wr.heap.size wr w6 := ha.trans (h6.mono ha.size)
  have hb7 : Below wr.heap.size wr (w6.alloc (.cells xs T)) := hb6.alloc hb6.size _
  have own7 : (w6.alloc (.cells xs T)).ownsRow W.heap.size 62 1 v ps.length (ps.map (fun q => codeI q.r)) := own_keep h.own (Ch.of_below hb7 (fun _ => False)) (fun _ _ _ e => e)
  have bl7 := h.bl.keep (Ch.of_below hb7 (fun _ => False)) (fun e => e)
  have hobv : v.ownBlock ≠ some ob := fun e => by
    obtain ⟨cs', hB⟩ := own_ty own7 e
    exact Blk.ne hB bl7 (by decide) rfl
  have bl8 := bl7.keep h8 hobv
  have hF7 : ∀ k, v.ownBlock = some k → k < (w6.alloc (.cells xs T)).heap.size → ∃ t cs, Blk (w6.alloc (.cells xs T)) k t cs ∧ t ≠ 70 := fun k hk _ => by
    obtain ⟨cs', hB⟩ := own_ty own7 hk
    exact ⟨_, _, hB, by decide⟩
  have hset : Ch (fun k => k = ob) w8 (w8.setCell ⟨ob, 0, none⟩ v8) := (Ch.refl (fun k => k = ob) w8).setCell (p := ⟨ob, 0, none⟩) (.inl rfl) v8
  have hF8 : ∀ k, k = ob → k < w8.heap.size → ∃ t cs, Blk w8 k t cs ∧ t ≠ 70 := fun k hk _ => by
    subst hk
    exact ⟨_, _, bl8, by decide⟩
  have cdAll : ∀ p : CdR, CdAt (w6.alloc (.cells xs T)) p.r p.i p.cap p.c → CdAt (w8.setCell ⟨ob, 0, none⟩ v8) p.r p.i p.cap p.c := fun (p : CdR) hp => by
    have hne : v.ownBlock ≠ some p.r := fun e => by
      obtain ⟨cs', hB⟩ := own_ty own7 e
      exact Blk.ne hB hp.b (by decide) rfl
    have hp8 := hp.keepT h8 hne hF7
    exact hp8.keepT hset (fun e => Blk.ne hp8.b bl8 (by decide) e) hF8
  have hn7 : CdAt (w6.alloc (.cells xs T)) n i cap c := hn.below ((Below.refl _ _).alloc (Nat.le_refl _) _)
  have z7 : w6.heap.size ≤ (w6.alloc (.cells xs T)).heap.size := by simp
  have zW := h.below.size
  have zA := ha.size
  have hown' : (w8.setCell ⟨ob, 0, none⟩ v8).ownsRow W.heap.size 62 1 v8 (ps.length + 1) (ps.map (fun q => codeI q.r) ++ [codeI n]) := own_keep hown hset (fun b hb _ e => by
    subst e
    obtain ⟨cs', hB⟩ := own_ty hown hb
    exact Blk.ne hB bl8 (by decide) rfl)
  have hbW : Below W.heap.size W (w8.setCell ⟨ob, 0, none⟩ v8) := by
    have k1 : Below W.heap.size W (w6.alloc (.cells xs T)) := h.below.trans (hb7.mono zW)
    have k2 : Below W.heap.size (w6.alloc (.cells xs T)) w8 := h8.below (fun j _ e => ownB_ge own7 e) (Nat.le_trans zW hb7.size)
    have k3 : Below W.heap.size w8 (w8.setCell ⟨ob, 0, none⟩ v8) := hset.below (fun j _ e => by subst e; exact h.ol) (Nat.le_trans (Nat.le_trans zW hb7.size) h8.size)
    exact (k1.trans k2).trans k3
  refine ⟨hbW, Blk.set bl8 0 v8, by simpa using hown', by simp [h.eq], fun p hp => ?_, fun p hp => ?_, ?_, h.ol⟩
  · rcases List.mem_append.1 hp with hp | hp
    · exact cdAll p (((h.cd p hp).below ha).below h6 |>.below ((Below.refl _ _).alloc (Nat.le_refl _) _))
    · simp only [List.mem_singleton] at hp
      subst hp
      exact cdAll _ hn7
  · rcases List.mem_append.1 hp with hp | hp
    · exact h.lo p hp
    · simp only [List.mem_singleton] at hp
      subst hp
      show W.heap.size ≤ n
      omega
  · rw [List.map_append, List.nodup_append]
    refine ⟨h.nd, by simp, fun a ha' b hb' e => ?_⟩
    obtain ⟨p, hp, rfl⟩ := List.mem_map.1 ha'
    simp only [List.map_cons, List.map_nil, List.mem_singleton] at hb'
    have := (h.cd p hp).b.lt
    omega
/-- a chain that is full -/
theorem CpS.done {W wr : World} {ob : Nat} {cs : List Cd} {ps : List CdR} {v : Value} (h : CpS W wr ob cs ps v) (hl : 1 ≤ cs.length) : ∃ lb cap, ChAt wr ob lb 0 cap ps := by
  have hl2 : 1 ≤ ps.length := by
    have := congrArg List.length h.eq
    rw [List.length_map] at this
    omega
  obtain ⟨g, c, sp, rfl, _, h2, h3, h4⟩ := own_gen h.own hl2
  exact ⟨g, c, h.bl, ⟨[], sp, by simpa using h4, rfl⟩, hl2, h2, h3, h.cd, h.nd⟩
def ChCopyP (w : World) (qs : List CdR) (e : Ending) (w' : World) : Prop :=
  Below w.heap.size w w' ∧ ∃ r lb cap ps, e = .returned (.iface 145 (.pointer (some ⟨r, 0, none⟩))) ∧ ChAt w' r lb 0 cap ps ∧ ps.map (·.c) = qs.map (·.c) ∧ w.heap.size ≤ r ∧ ∀ p ∈ ps, w.heap.size ≤ p.r
theorem take_map_snoc (qs : List CdR) (k : Nat) (q : CdR) (h : qs[k]? = some q) : (qs.take (k + 1)).map (·.c) = (qs.take k).map (·.c) ++ [q.c] := by
  rw [List.take_add_one, h]
  simp
set_option maxRecDepth 100000 in
set_option maxHeartbeats 2000000 in
theorem chcopy_any (r lb off cap : Nat) (qs : List CdR) (w : World) (h : ChAt w r lb off cap qs) (hlen : qs.length ≤ 1000) :
    Calls Try.prog 112 #[.pointer (some ⟨r, 0, none⟩)] w (ChCopyP w qs) := by
  obtain ⟨i0, hi0, hz0, hz1, hz2⟩ := info_parts progInfo
  have z1 := nil_Copy_Code
  have z2 := method_Copy_Code
  have hc0 := h.c0
  have hrl := h.b.lt
  have hcl := h.capl
  have hcm := h.capm
  go_enter Try.func112, Try.ntmps112
  go_wp2_with fail
  go_loopw [13] (fun v13 wr => ∃ (k : Nat) (v : Value) (ps : List CdR), k ≤ qs.length ∧ v13 = .int .i64 k ∧ CpS w wr w.heap.size ((qs.take k).map (·.c)) ps v) (fun v13 _ => qs.length - (intOf v13).toNat)
  case atStart => exact ⟨0, .slice none 0 0, [], Nat.zero_le _, rfl, ⟨by (repeat' (first | (with_reducible exact Below.refl _ _) | (with_reducible assumption) | (with_reducible refine Below.alloc ?_ ?_ _) | (with_reducible refine Below.drew ?_) | (with_reducible refine below_drewN ?_ _) | (with_reducible refine Below.setCell ?_ ?_ _) | (with_reducible refine Below.trans ?_ (Below.mono (by assumption) ?_)) | (first | go_size | (with_reducible exact Below.size (by assumption)) | (with_reducible exact Nat.le_trans (Below.size (by assumption)) (Below.size (by assumption))) | (refine Nat.le_trans (Below.size (by assumption)) ?_; go_size)))), Blk.new w _ _, own_none _ _ _ _, rfl, (fun p hp => by cases hp), (fun p hp => by cases hp), by simp, Nat.le_refl _⟩⟩
  case round =>
    obtain ⟨k, v, ps, hk, rfl, hS⟩ := hrel
    by_cases hlt : k < qs.length
    · obtain ⟨q, hq⟩ : ∃ q, qs[k]? = some q := ⟨_, List.getElem?_eq_getElem hlt⟩
      have hcell : w.cell? ⟨lb, off + k, none⟩ = some (codeI q.r) := by
        obtain ⟨pre, sp, hs, rfl⟩ := h.ll
        rw [hs.cell, List.getElem?_append_right (by omega), List.getElem?_append_left (by simp; omega)]
        simp [hq]
      have hcell2 := (Ch.of_below hS.below (fun _ => False)).keeps hcell (fun e => e)
      have hcq := (h.cd q (List.mem_of_getElem? hq)).below hS.below
      have HTK := Lib.hid (take_map_snoc qs k q hq)
      have hv0 : wr.cell? ⟨w.heap.size, 0, none⟩ = some v := hS.bl.cell 0
      have hvf := hS.bl.frozen 0
      have hvl := hS.bl.lt
      have i1 : (0 : Int) ≤ k := Int.natCast_nonneg _
      have i2 : (k : Int) < qs.length := by omega
      have hpl : ps.length = k := by
        have := congrArg List.length hS.eq
        rw [List.length_map, List.length_map, List.length_take] at this
        omega
      have HPL := Lib.hid hpl
      clear hq hpl hcell
      go_upto_block 1 with (fail)
      go_cut [] (fun wx => ∃ (v : Value) (ps : List CdR), CpS w wx w.heap.size ((qs.take (k + 1)).map (·.c)) ps v)
      case first =>
        go_upto_region 5 with (fail)
        refine wp_region_D (fun w' => w'.cell? ⟨w.heap.size, 0, none⟩ = some v) [11] (by kernel_rfl) ?hs (fun hHeld => ?hr)
        case hs => exact (by go_cell)
        case hr =>
          have hHs := hHeld
          clear hHeld
          refine takeD_pure (i := 0) (v := ?v1) rfl (by kernel_rfl) (by kernel_rfl) (by kernel_rfl) (by kernel_rfl) (fun _ _ _ h => h) (by rfl) ?y1 (fun _ => hHs) ?r1
          case y1 => (intro w; go_simp; (try with_reducible rfl))
          case r1 =>
            try simp only [Act.put, List.setIfInBounds_toArray, List.set_cons_zero, List.set_cons_succ]
            refine takeD_pure (i := 1) (v := ?v2) rfl (by kernel_rfl) (by kernel_rfl) (by kernel_rfl) (by kernel_rfl) (fun _ _ _ h => h) (by rfl) ?y2 (fun _ => hHs) ?r2
            case y2 => (intro w; go_simp; (try with_reducible rfl))
            case r2 =>
              try simp only [Act.put, List.setIfInBounds_toArray, List.set_cons_zero, List.set_cons_succ]
              refine takeD_pure (i := 2) (v := ?v3) rfl (by kernel_rfl) (by kernel_rfl) (by kernel_rfl) (by kernel_rfl) (fun _ _ _ h => h) (by rfl) ?y3 (fun _ => hHs) ?r3
              case y3 => (intro w; go_simp; (try with_reducible rfl))
              case r3 =>
                try simp only [Act.put, List.setIfInBounds_toArray, List.set_cons_zero, List.set_cons_succ]
                refine takeD_pure (i := 3) (v := ?v4) rfl (by kernel_rfl) (by kernel_rfl) (by kernel_rfl) (by kernel_rfl) (fun _ _ _ h => h) (by rfl) ?y4 (fun _ => hHs) ?r4
                case y4 => (intro w; go_simp; (try with_reducible rfl))
                case r4 =>
                  try simp only [Act.put, List.setIfInBounds_toArray, List.set_cons_zero, List.set_cons_succ]
                  refine takeD_load (i := 4) (v := ?v5) rfl (by kernel_rfl) (by kernel_rfl) (by kernel_rfl) (by kernel_rfl) (by kernel_rfl) (by kernel_rfl) (fun _ _ _ h => h) (by rfl) ?y5 hHs ?r5
                  case y5 => (intro w hSw; go_simp; (try with_reducible rfl))
                  case r5 =>
                    try simp only [Act.put, List.setIfInBounds_toArray, List.set_cons_zero, List.set_cons_succ]
                    refine takeD_pure (i := 5) (v := ?v6) rfl (by kernel_rfl) (by kernel_rfl) (by kernel_rfl) (by kernel_rfl) (fun _ _ _ h => h) (by rfl) ?y6 (fun _ => hHs) ?r6
                    case y6 => (intro w; go_simp; (try with_reducible rfl))
                    case r6 =>
                      try simp only [Act.put, List.setIfInBounds_toArray, List.set_cons_zero, List.set_cons_succ]
                      refine wpAnyD_ready (rs := [6]) (by kernel_rfl) (by simp) ?b7
                      case b7 =>
                        refine consD rfl (fun K hK => ?s8) ?m8
                        case s8 =>
                          go_simp
                          refine (ccopy_any q.r q.i q.cap q.c _ (hcq.below (by (repeat' (first | (with_reducible exact Below.refl _ _) | (with_reducible assumption) | (with_reducible refine Below.alloc ?_ ?_ _) | (with_reducible refine Below.drew ?_) | (with_reducible refine below_drewN ?_ _) | (with_reducible refine Below.setCell ?_ ?_ _) | (with_reducible refine Below.trans ?_ (Below.mono (by assumption) ?_)) | (first | go_size | (with_reducible exact Below.size (by assumption)) | (with_reducible exact Nat.le_trans (Below.size (by assumption)) (Below.size (by assumption))) | (refine Nat.le_trans (Below.size (by assumption)) ?_; go_size))))))).mono ?_
                          rintro e w6 ⟨rfl, hn6, hb6⟩
                          go_wp2_with fail
                          have hHs : w6.cell? ⟨w.heap.size, 0, none⟩ = some v := (Ch.of_below hb6 (fun _ => False)).keeps (by go_cell) (fun e => e)
                          refine hK.out _ _ (fun _ => hHs) ?n8
                          case n8 =>
                            clear hK K
                            try simp only [Act.put, List.setIfInBounds_toArray, List.set_cons_zero, List.set_cons_succ]
                            refine wpAnyD_ready (rs := [7]) (by kernel_rfl) (by simp) ?b9
                            case b9 =>
                              refine consD rfl (fun K hK => ?s10) ?m10
                              case s10 =>
                                go_simp
                                have hHs := ((Ch.refl (fun _ => False) w6).alloc (.cells #[codeI wr.heap.size] 62)).keeps hHs (fun e => e)
                                refine hK.out _ _ (fun _ => hHs) ?n10
                                case n10 =>
                                  clear hK K
                                  try simp only [Act.put, List.setIfInBounds_toArray, List.set_cons_zero, List.set_cons_succ]
                                  refine wpAnyD_ready (rs := [8]) (by kernel_rfl) (by simp) ?b11
                                  case b11 =>
                                    refine consD rfl (fun K hK => ?s12) ?m12
                                    case s12 =>
                                      have hz6 := hb6.size
                                      have hzS := hS.below.size
                                      simp only [World.size_drew] at hz6
                                      have hown7 : (w6.alloc (.cells #[codeI wr.heap.size] 62)).ownsRow w.heap.size 62 1 v ps.length (ps.map (fun q => codeI q.r)) := own_keep (own_keep hS.own (Ch.of_below ((Below.refl _ _).drew.trans (hb6.mono (by simp))) (fun _ => False)) (fun _ _ _ e => e)) ((Ch.refl (fun _ => False) _).alloc _) (fun _ _ _ e => e)
                                      refine step_append_rd rfl (.tmp 21) (.tmp 24) 140 rfl w.heap.size 62 i0 _ 1 16 Try.underlying140 hi0 hz0 hz1 hz2 rfl (by omega) v ps.length (ps.map (fun q => codeI q.r)) rfl hown7 (some ⟨w6.heap.size, 0, none⟩) 1 1 [codeI wr.heap.size] rfl (Rd.of_blk (G := fun _ => True) (Blk.new _ _ _) (List.prefix_refl _) trivial) (fun h => by cases h) rfl (by simp [Value.oneCell']) (by unfold maxLen; have := HPL.out; omega) (by have := HPL.out; omega) (by simp only [World.size_alloc]; omega) ?_
                                      intro v8 w8 hown8 hch8 _
                                      obtain ⟨A8, c8, rfl, _, _⟩ := own_slice hown8
                                      have hob8 : v.ownBlock ≠ some w.heap.size := fun e => by
                                        obtain ⟨cs2, hB⟩ := own_ty hS.own e
                                        exact Blk.ne hB hS.bl (by decide) rfl
                                      have hHs : w8.cell? ⟨w.heap.size, 0, none⟩ = some v := hch8.keeps hHs hob8
                                      have hC8f : w8.frozen? ⟨w.heap.size, 0, none⟩ = false := by
                                        rw [hch8.frozen (p := ⟨w.heap.size, 0, none⟩) (by simp only [World.size_alloc]; omega) hob8]
                                        exact ((hS.bl.keep (Ch.of_below ((Below.refl _ _).drew.trans (hb6.mono (by simp))) (fun _ => False)) (fun e => e)).keep ((Ch.refl (fun _ => False) _).alloc _) (fun e => e)).frozen 0
                                      refine hK.out _ _ (fun _ => hHs) ?n12
                                      case n12 =>
                                        clear hK K
                                        try simp only [Act.put, List.setIfInBounds_toArray, List.set_cons_zero, List.set_cons_succ]
                                        refine takeD_pure (i := 9) (v := ?v13) rfl (by kernel_rfl) (by kernel_rfl) (by kernel_rfl) (by kernel_rfl) (fun _ _ _ h => h) (by rfl) ?y13 (fun _ => hHs) ?r13
                                        case y13 => (intro w; go_simp; (try with_reducible rfl))
                                        case r13 =>
                                          try simp only [Act.put, List.setIfInBounds_toArray, List.set_cons_zero, List.set_cons_succ]
                                          refine takeD_pure (i := 10) (v := ?v14) rfl (by kernel_rfl) (by kernel_rfl) (by kernel_rfl) (by kernel_rfl) (fun _ _ _ h => h) (by rfl) ?y14 (fun _ => hHs) ?r14
                                          case y14 => (intro w; go_simp; (try with_reducible rfl))
                                          case r14 =>
                                            try simp only [Act.put, List.setIfInBounds_toArray, List.set_cons_zero, List.set_cons_succ]
                                            refine wpAnyD_ready (rs := [11]) (by kernel_rfl) (by simp) ?b15
                                            case b15 =>
                                              refine consD rfl (fun K hK => ?s16) ?m16
                                              case s16 =>
                                                go_simp
                                                have hS9 := hS.add ((Below.refl _ _).drew) hb6 hn6 (Nat.le_refl _) _ _ hch8 hown8
                                                refine hK.out _ _ (noD_no (by kernel_rfl)) ?n16
                                                case n16 =>
                                                  clear hK K
                                                  try simp only [Act.put]
                                                  refine wpAnyD_done (by kernel_rfl) ?_ _
                                                  go_wp2_with fail
                                                  go_meet
                                                  exact ⟨_, _, by rw [HTK.out]; exact hS9⟩
                                              case m16 =>
                                                exact AllReadyD.nil
                                    case m12 =>
                                      exact AllReadyD.nil
                              case m10 =>
                                exact AllReadyD.nil
                        case m8 =>
                          exact AllReadyD.nil
      case rest =>
        obtain ⟨v2, ps2, hS2⟩ := hcut
        go_wp2
        go_roundw
        case rel => exact ⟨k + 1, v2, ps2, by omega, by go_num, hS2⟩
        case measure => simp [intOf]; omega
    · obtain rfl : k = qs.length := by omega
      rw [List.take_length] at hS
      have hlo := h.lo
      obtain ⟨lb2, cap2, hD⟩ := hS.done (by simpa using hlo)
      go_wp2
      go_ret
      exact ⟨hS.below, w.heap.size, lb2, cap2, ps, rfl, hD, hS.eq, Nat.le_refl _, hS.lo⟩
theorem copied_code (r i cap : Nat) (c : Cd) (w : World) (h : CdAt w r i cap c) :
    Calls Try.prog 65 #[codeI r] w fun e w' => e = .returned (codeI w.heap.size) ∧ CdAt w' w.heap.size i cap c ∧ Below w.heap.size w w' := by
  have z1 := nil_Copy_Code
  have z2 := method_Copy_Code
  go_enter Try.func65, Try.ntmps65
  go_wp2_with (go_at_call 34; refine (ccopy_any r i cap c _ h).mono ?_; rintro e w6 ⟨rfl, hn6, hb6⟩)
  go_ret
  exact ⟨rfl, hn6, hb6⟩
def ChainP (w : World) (qs : List CdR) (e : Ending) (w' : World) : Prop :=
  Below w.heap.size w w' ∧ ∃ r lb off cap ps, e = .returned (.tuple #[.iface 145 (.pointer (some ⟨r, 0, none⟩)), .int .i64 0]) ∧ ChAt w' r lb off cap (nextQ ps) ∧ ps.map (·.c) = qs.map (·.c) ∧ w.heap.size ≤ r ∧ ∀ p ∈ ps, w.heap.size ≤ p.r
set_option maxRecDepth 100000 in
set_option maxHeartbeats 2000000 in
theorem chain_ok (A : Option Addr) (qs : List CdR) (n c : Nat) (w : World) (hr : Rd (fun b => b < w.heap.size) w A (qs.map (fun q => codeI q.r))) (hl : qs.length = n) (h1 : 1 ≤ n) (h2 : n ≤ 1000) (hcd : ∀ q ∈ qs, CdAt w q.r q.i q.cap q.c) :
    Calls Try.prog 30 #[.slice A n c] w (ChainP w qs) := by
  subst hl
  obtain ⟨i0, hi0, hz0, hz1, hz2⟩ := info_parts progInfo
  go_enter Try.func30, Try.ntmps30
  go_wp2_with fail
  go_loopw [12] (fun v12 wr => ∃ (k : Nat) (v : Value) (ps : List CdR), k ≤ qs.length ∧ v12 = .int .i64 k ∧ CpS w wr w.heap.size ((qs.take k).map (·.c)) ps v) (fun v12 _ => qs.length - (intOf v12).toNat)
  case atStart => exact ⟨0, .slice none 0 0, [], Nat.zero_le _, rfl, ⟨by (repeat' (first | (with_reducible exact Below.refl _ _) | (with_reducible assumption) | (with_reducible refine Below.alloc ?_ ?_ _) | (with_reducible refine Below.drew ?_) | (with_reducible refine below_drewN ?_ _) | (with_reducible refine Below.setCell ?_ ?_ _) | (with_reducible refine Below.trans ?_ (Below.mono (by assumption) ?_)) | (first | go_size | (with_reducible exact Below.size (by assumption)) | (with_reducible exact Nat.le_trans (Below.size (by assumption)) (Below.size (by assumption))) | (refine Nat.le_trans (Below.size (by assumption)) ?_; go_size)))), Blk.new w _ _, own_none _ _ _ _, rfl, (fun p hp => by cases hp), (fun p hp => by cases hp), by simp, Nat.le_refl _⟩⟩
  case round =>
    obtain ⟨k, v, ps, hk, rfl, hS⟩ := hrel
    by_cases hlt : k < qs.length
    · obtain ⟨q, hq⟩ : ∃ q, qs[k]? = some q := ⟨_, List.getElem?_eq_getElem hlt⟩
      obtain ⟨b0, o0, rfl, hb0, hcell⟩ := (hr.keep (Ch.of_below hS.below (fun _ => False)) (fun _ _ _ e => e)).at (j := k) (by simpa using hlt)
      simp only [List.getElem_map] at hcell
      have hqe : qs[k] = q := by rw [List.getElem?_eq_getElem hlt] at hq; exact Option.some.inj hq
      rw [hqe] at hcell
      have hcq := (hcd q (List.mem_of_getElem? hq)).below hS.below
      have HTK := Lib.hid (take_map_snoc qs k q hq)
      have hv0 : wr.cell? ⟨w.heap.size, 0, none⟩ = some v := hS.bl.cell 0
      have hvf := hS.bl.frozen 0
      have hvl := hS.bl.lt
      have i1 : (0 : Int) ≤ k := Int.natCast_nonneg _
      have i2 : (k : Int) < qs.length := by omega
      have hpl : ps.length = k := by
        have := congrArg List.length hS.eq
        rw [List.length_map, List.length_map, List.length_take] at this
        omega
      have HPL := Lib.hid hpl
      have hzS := hS.below.size
      have hqr := hcq.b.lt
      clear hq hpl hqe
      go_upto_region 8 with (go_at_call 65; refine (copied_code q.r q.i q.cap q.c _ hcq).mono ?_; rintro e w6 ⟨rfl, hn6, hb6⟩)
      have hz6 := hb6.size
      have hC6 : w6.cell? ⟨w.heap.size, 0, none⟩ = some v := (Ch.of_below hb6 (fun _ => False)).keeps hv0 (fun e => e)
      have hown7 : (w6.alloc (.cells #[codeI wr.heap.size] 62)).ownsRow w.heap.size 62 1 v ps.length (ps.map (fun q => codeI q.r)) := own_keep (own_keep hS.own (Ch.of_below hb6 (fun _ => False)) (fun _ _ _ e => e)) ((Ch.refl (fun _ => False) _).alloc _) (fun _ _ _ e => e)
      have hob8 : v.ownBlock ≠ some w.heap.size := fun e => by
        obtain ⟨cs2, hB⟩ := own_ty hS.own e
        exact Blk.ne hB hS.bl (by decide) rfl
      go_wp2_with (at_builtin; refine wpList_append_rd _ rfl _ _ _ rfl w.heap.size 62 i0 _ 1 16 Try.underlying140 hi0 hz0 hz1 hz2 rfl (by omega) v ps.length (ps.map (fun q => codeI q.r)) rfl hown7 (some ⟨w6.heap.size, 0, none⟩) 1 1 [codeI wr.heap.size] rfl (Rd.of_blk (G := fun _ => True) (Blk.new _ _ _) (List.prefix_refl _) trivial) (fun h => by cases h) rfl (by simp [Value.oneCell']) (by unfold maxLen; have := HPL.out; omega) (by have := HPL.out; omega) (by simp only [World.size_alloc]; omega) ?_)
      intro v8 w8 hown8 hch8 _
      obtain ⟨A8, c8, rfl, _, _⟩ := own_slice hown8
      have hC8 := hch8.keeps (((Ch.refl (fun _ => False) w6).alloc (.cells #[codeI wr.heap.size] 62)).keeps hC6 (fun e => e)) hob8
      have hC8f : w8.frozen? ⟨w.heap.size, 0, none⟩ = false := by
        rw [hch8.frozen (p := ⟨w.heap.size, 0, none⟩) (by simp only [World.size_alloc]; omega) hob8]
        exact ((hS.bl.keep (Ch.of_below hb6 (fun _ => False)) (fun e => e)).keep ((Ch.refl (fun _ => False) _).alloc _) (fun e => e)).frozen 0
      have hS9 := hS.add (Below.refl _ _) hb6 hn6 (Nat.le_refl _) _ _ hch8 hown8
      rw [← HTK.out] at hS9
      clear hown8 hch8 hS hown7 HTK
      go_wp2_with fail
      go_roundw
      case rel => exact ⟨k + 1, _, _, by omega, by go_num, hS9⟩
      case measure => simp [intOf]; omega
    · obtain rfl : k = qs.length := by omega
      rw [List.take_length] at hS
      obtain ⟨lb2, cap2, hD⟩ := hS.done (by simpa using h1)
      have hc0 := hD.c0
      have hlo := hD.lo
      have hne : ((ps.length : Int) == 0) = false := by rw [beq_eq_false_iff_ne]; omega
      go_wp2_with (go_at_call 73; refine (next_any _ lb2 0 cap2 ps _ hD).mono ?_; rintro e w3 ⟨rfl, hC3, hA3⟩)
      go_ret2
      obtain ⟨off, cap, hA⟩ := hA3
      exact ⟨hS.below.trans (hC3.below (fun j _ e => by subst e; exact Nat.le_refl _) hS.below.size), w.heap.size, lb2, off, cap, ps, rfl, hA, hS.eq, Nat.le_refl _, hS.lo⟩
theorem chain_none (A : Option Addr) (c : Nat) (w : World) :
    Calls Try.prog 30 #[.slice A 0 c] w fun e w' => e = .returned (.tuple #[.nilIface, .int .i64 2]) ∧ Below w.heap.size w w' := by
  go_enter Try.func30, Try.ntmps30
  go_wp2_with fail
  go_loopw [12] (fun v12 wr => v12 = .int .i64 0 ∧ wr = w.alloc (.cells #[.slice none 0 0] 147)) (fun _ _ => 0)
  case atStart => exact ⟨rfl, rfl⟩
  case round =>
    obtain ⟨rfl, rfl⟩ := hrel
    go_wp2_with fail
    go_ret2
    exact ⟨rfl, by (repeat' (first | (with_reducible exact Below.refl _ _) | (with_reducible assumption) | (with_reducible refine Below.alloc ?_ ?_ _) | (with_reducible refine Below.drew ?_) | (with_reducible refine below_drewN ?_ _) | (with_reducible refine Below.setCell ?_ ?_ _) | (with_reducible refine Below.trans ?_ (Below.mono (by assumption) ?_)) | (first | go_size | (with_reducible exact Below.size (by assumption)) | (with_reducible exact Nat.le_trans (Below.size (by assumption)) (Below.size (by assumption))) | (refine Nat.le_trans (Below.size (by assumption)) ?_; go_size))))⟩
end Go.Proofs.Ytmbofohdjdipdaa
