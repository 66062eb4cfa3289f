/-
  Contracts of package thread: copies of machines.
-/
import Derived.Test.YtmbofohdjdipdaaTh11
import Derived.Test.YtmbofohdjdipdaaDrawnD
namespace Go.Proofs.Ytmbofohdjdipdaa
open Go.RowKit

theorem take_map_snocT (qs : List ThR) (k : Nat) (q : ThR) (h : qs[k]? = some q) : (qs.take (k + 1)).map (·.t) = (qs.take k).map (·.t) ++ [q.t] := by
  rw [List.take_add_one, h]
  simp
def MaCopyP (w : World) (M : MaR) (ws : List Int) (e : Ending) (w' : World) : Prop :=
  Below w.heap.size w w' ∧ ∃ M', e = .returned (.pointer (some ⟨M'.r, 0, none⟩)) ∧ MaAt w' M' ws ∧ M'.qs.map (·.t) = M.qs.map (·.t) ∧ ∀ k, M'.foot k → w.heap.size ≤ k
/-- a machine that is being filled -/
structure McpS (W wr : World) (ob : Nat) (ws : List Int) (ts : List Thr) (v : Value) (M : MaR) : Prop where
  below : Below W.heap.size W wr
  at_ : MaAt wr M ws
  r : M.r = ob
  lv : M.lv = v
  ts : M.qs.map (·.t) = ts
  lo : ∀ k, M.foot k → W.heap.size ≤ k
set_option maxRecDepth 100000 in
set_option maxHeartbeats 2000000 in
theorem macopy_ok (M : MaR) (ws : List Int) (w : World) (h : MaAt w M ws) (hsh : ∀ q ∈ M.qs, q.t.x.shares = []) :
    Calls Try.prog 20 #[.pointer (some ⟨M.r, 0, none⟩)] w (MaCopyP w M ws) := by
  obtain ⟨i0, hi0, hz0, hz1, hz2⟩ := info_parts thInfo
  have c0 := h.c0
  have hz := mazero_ok M ws w h
  have hc := mcopy_ok M.b M.g M.c ws w h.mem
  have hn64 := h.n64
  have hrl := h.hd.lt
  obtain ⟨A, c, hlv⟩ := h.lv
  have HL := Lib.hid hlv
  have HSH := Lib.hid hsh
  clear hlv hsh
  go_enter Try.func20, Try.ntmps20
  go_upto_region 4 with (first | (go_at_call 60; refine hz.mono ?_; rintro e w1 ⟨rfl, rfl⟩) | (go_at_call 44; refine hc.mono ?_; rintro e w1 ⟨b2, g2, c2, rfl, m1, m2, m3, m4⟩))
  have hzz := m4.size
  have hob : w1.heap.size = (w1.alloc (.cells [Value.pointer (some ⟨b2, 0, none⟩), .slice none 0 0].toArray 91)).heap.size - 1 := by simp
  have hS0 : McpS w (w1.alloc (.cells [Value.pointer (some ⟨b2, 0, none⟩), .slice none 0 0].toArray 91)) w1.heap.size ws [] (.slice none 0 0) ⟨w1.heap.size, b2, g2, c2, .slice none 0 0, []⟩ := by
    refine ⟨by (repeat' (first | (with_reducible exact Below.refl _ _) | (with_reducible assumption) | (with_reducible refine Below.alloc ?_ ?_ _) | (with_reducible refine Below.drew ?_) | (with_reducible refine below_drewN ?_ _) | (with_reducible refine Below.setCell ?_ ?_ _) | (with_reducible refine Below.trans ?_ (Below.mono (by assumption) ?_)) | (first | go_size | (with_reducible exact Below.size (by assumption)) | (with_reducible exact Nat.le_trans (Below.size (by assumption)) (Below.size (by assumption))) | (refine Nat.le_trans (Below.size (by assumption)) ?_; go_size)))), ⟨Blk.new _ _ _, m1.keep ((Ch.refl (fun _ => False) _).alloc _) (fun e => e) (fun e => e), own_none _ _ _ _, (fun q hq => by cases hq), List.Pairwise.nil, Nat.zero_le _⟩, rfl, rfl, rfl, fun k hk => ?_⟩
    rcases hk with rfl | rfl | rfl | hk | ⟨q, hq, _⟩
    · exact hzz
    · exact m2
    · exact m3
    · cases hk
    · cases hq
  have c1 : (w1.alloc (.cells [Value.pointer (some ⟨b2, 0, none⟩), .slice none 0 0].toArray 91)).cell? ⟨M.r, 1, none⟩ = some (.slice A M.qs.length c) := by
    rw [← HL.out]
    exact (h.below hS0.below).c1
  have HS0 := Lib.hid hS0
  clear hS0
  go_wp2_with fail
  generalize w1.heap.size = ob at *
  go_loopw [20] (fun v20 wr => ∃ (k : Nat) (v : Value) (N : MaR), k ≤ M.qs.length ∧ v20 = .int .i64 k ∧ McpS w wr ob ws ((M.qs.take k).map (·.t)) v N) (fun v20 _ => M.qs.length - (intOf v20).toNat)
  case atStart => exact ⟨0, _, _, Nat.zero_le _, rfl, HS0.out⟩
  case round =>
    clear HS0 c1 hzz m1 m2 m3 m4 hob
    obtain ⟨k, v, N, hk, rfl, hS⟩ := hrel
    have hbS := hS.below
    by_cases hlt : k < M.qs.length
    · obtain ⟨q, hq⟩ : ∃ q, M.qs[k]? = some q := ⟨_, List.getElem?_eq_getElem hlt⟩
      have hwr := h.below hbS
      obtain ⟨lb, c', hlv', hcl, hcm, ⟨sp, hbl⟩, e0, e1, e2⟩ := hwr.at hq
      obtain ⟨rfl, rfl⟩ : A = some ⟨lb, 0, none⟩ ∧ c' = c := by
        have := HL.out.symm.trans hlv'
        injection this with a b c
        exact ⟨a, c.symm⟩
      have hpr := hwr.pr q (List.mem_of_getElem? hq)
      have hok := hpr.ok
      have z1 := hok.nc
      have z2 := hok.mc
      have z3 := hok.kc
      have hcp := fun W (hW : ProgAt W q.d q.fs q.t.x) => p_copy hW
      have HTK := Lib.hid (take_map_snocT M.qs k q hq)
      have hnl : N.qs.length = k := by
        have := congrArg List.length hS.ts
        simp only [List.length_map, List.length_take] at this
        omega
      have HNL := Lib.hid hnl
      have hNr := hS.r
      have hNv := hS.lv
      have hsh : q.t.x.shares = [] := HSH.out q (List.mem_of_getElem? hq)
      have HQS := Lib.hid hsh
      have hc1 : wr.cell? ⟨ob, 1, none⟩ = some v := by rw [← hNr, ← hNv]; exact hS.at_.c1
      have hobl : ob < wr.heap.size := World.block_lt_of_cell? _ _ hc1
      have hbls := hbl.lt
      have i1 : (0 : Int) ≤ k := Int.natCast_nonneg _
      have i2 : (k : Int) < M.qs.length := by omega
      have HQ := Lib.hid hq
      have HNR := Lib.hid (And.intro hNr hNv)
      have hsw := hbS.size
      clear hq hlv' hnl hNr hNv hsh
      go_upto_block 1 with (fail)
      go_cut [] (fun wx => ∃ (v : Value) (N : MaR), McpS w wx ob ws ((M.qs.take (k + 1)).map (·.t)) v N)
      case first =>
        go_upto_region 8 with ((with_reducible refine (hcp _ (hpr.below (by (repeat' (first | (with_reducible exact Below.refl _ _) | (with_reducible assumption) | (with_reducible refine Below.alloc ?_ ?_ _) | (with_reducible refine Below.drew ?_) | (with_reducible refine below_drewN ?_ _) | (with_reducible refine Below.setCell ?_ ?_ _) | (with_reducible refine Below.trans ?_ (Below.mono (by assumption) ?_)) | (first | go_size | (with_reducible exact Below.size (by assumption)) | (with_reducible exact Nat.le_trans (Below.size (by assumption)) (Below.size (by assumption))) | (refine Nat.le_trans (Below.size (by assumption)) ?_; go_size))))))).mono ?_); rintro e w6 ⟨hb6, d2, fs2, rfl, hp6, hf6⟩; have hx6 : Blk w6 wr.heap.size 132 (thV q) := (Blk.new wr 132 (thV q)).keep (Ch.of_below hb6 (fun _ => False)) (fun e => e); have x0 := hx6.cell 0; have x1 := hx6.cell 1; have x2 := hx6.cell 2; simp only [thV, List.getElem?_cons_zero, List.getElem?_cons_succ] at x0 x1 x2; have xf := hx6.frozen; have xl := hx6.lt)
        have hsetx := (Ch.refl (fun k => k = wr.heap.size) w6).setCell (p := ⟨wr.heap.size, 0, none⟩) (.inl rfl) (.iface d2.T d2.p)
        have hpx : ∀ k ∈ fs2, k ≠ wr.heap.size := fun k hk e => by
          obtain ⟨tt, cs', hB', htt⟩ := hp6.ty k hk
          subst e
          refine Blk.ne hB' hx6 (fun e => ?_) rfl
          subst e
          revert htt
          unfold progTy
          decide
        have hp6s := hp6.keep hsetx (Mut.one hx6 (by unfold fixTy; decide)) hpx
        have hx6s := hx6.set 0 (.iface d2.T d2.p)
        have y0 := hx6s.cell 0
        have y1 := hx6s.cell 1
        have y2 := hx6s.cell 2
        simp only [thV, List.set_cons_zero, List.getElem?_cons_zero, List.getElem?_cons_succ] at y0 y1 y2
        have hB6 : Below wr.heap.size wr (w6.setCell ⟨wr.heap.size, 0, none⟩ (.iface d2.T d2.p)) := by (repeat' (first | (with_reducible exact Below.refl _ _) | (with_reducible assumption) | (with_reducible refine Below.alloc ?_ ?_ _) | (with_reducible refine Below.drew ?_) | (with_reducible refine below_drewN ?_ _) | (with_reducible refine Below.setCell ?_ ?_ _) | (with_reducible refine Below.trans ?_ (Below.mono (by assumption) ?_)) | (first | go_size | (with_reducible exact Below.size (by assumption)) | (with_reducible exact Nat.le_trans (Below.size (by assumption)) (Below.size (by assumption))) | (refine Nat.le_trans (Below.size (by assumption)) ?_; go_size))))
        have hfs : ∀ k ∈ fs2, wr.heap.size ≤ k ∨ k ∈ q.t.x.shares := fun k hk => (hf6 k hk).imp (fun e => Nat.le_trans (by simp) e) id
        have oc1 : (w6.setCell ⟨wr.heap.size, 0, none⟩ (.iface d2.T d2.p)).cell? ⟨ob, 1, none⟩ = some v := (Ch.of_below hB6 (fun _ => False)).keeps hc1 (fun e => e)
        clear hsetx hpx hp6 hx6 hb6 hf6 x0 x1 x2 xf xl hx6s e0 e1 e2 z1 z2 z3 hcp
        generalize w6.setCell ⟨wr.heap.size, 0, none⟩ (.iface d2.T d2.p) = w7 at *
        have hz7 := hB6.size
        have hown7 : (w7.drew.alloc (.cells (thV ⟨d2, fs2, q.t⟩).toArray 132)).ownsRow 0 132 3 v N.qs.length (thVs N.qs) := by
          have h1 := hS.at_.own
          rw [hS.lv] at h1
          exact own_keep (own_keep h1 (Ch.of_below (hB6.drew) (fun _ => False)) (fun _ _ _ e => e)) ((Ch.refl (fun _ => False) _).alloc _) (fun _ _ _ e => e)
        have hvob : v.ownBlock ≠ some ob := fun e => by
          have h1 := hS.at_.own
          rw [hS.lv] at h1
          obtain ⟨cs, hB⟩ := own_ty h1 e
          have h2 := hS.at_.hd
          rw [hS.r] at h2
          exact Blk.ne hB h2 (by decide) rfl
        have hgrow := fun w8 v8 => hS.at_.grow (t := q.t) (v8 := v8) (w8 := w8) (T := 132) (xs := (thV ⟨d2, fs2, q.t⟩).toArray) hB6.drew (hp6s.below (by (repeat' (first | (with_reducible exact Below.refl _ _) | (with_reducible assumption) | (with_reducible refine Below.alloc ?_ ?_ _) | (with_reducible refine Below.drew ?_) | (with_reducible refine below_drewN ?_ _) | (with_reducible refine Below.setCell ?_ ?_ _) | (with_reducible refine Below.trans ?_ (Below.mono (by assumption) ?_)) | (first | go_size | (with_reducible exact Below.size (by assumption)) | (with_reducible exact Nat.le_trans (Below.size (by assumption)) (Below.size (by assumption))) | (refine Nat.le_trans (Below.size (by assumption)) ?_; go_size)))))) hfs (fun k hk => by rw [HQS.out] at hk; cases hk)
        have HG := Lib.hid hgrow
        clear hgrow
        refine wp_region_D (fun w' => w'.cell? ⟨ob, 1, none⟩ = some v ∧ w'.cell? ⟨wr.heap.size, 0, none⟩ = some (.iface d2.T d2.p) ∧ w'.cell? ⟨wr.heap.size, 1, none⟩ = some (.int .i64 q.t.steps) ∧ w'.cell? ⟨wr.heap.size, 2, none⟩ = some (.int .i64 q.t.looks)) [10] (by kernel_rfl) ?hs (fun hHeld => ?hr)
        case hs => exact ⟨by go_cell, by go_cell, by go_cell, by go_cell⟩
        case hr =>
          have hHs := hHeld
          clear hHeld
          refine takeD_pure (i := 0) (v := ?v1) rfl (by kernel_rfl) (by kernel_rfl) (by kernel_rfl) (by kernel_rfl) (fun _ _ _ h => h) (by rfl) ?y1 (fun _ => hHs) ?r1
          case y1 => (intro w; go_simp; (try with_reducible rfl))
          case r1 =>
            try simp only [Act.put, List.setIfInBounds_toArray, List.set_cons_zero, List.set_cons_succ]
            refine takeD_pure (i := 1) (v := ?v2) rfl (by kernel_rfl) (by kernel_rfl) (by kernel_rfl) (by kernel_rfl) (fun _ _ _ h => h) (by rfl) ?y2 (fun _ => hHs) ?r2
            case y2 => (intro w; go_simp; (try with_reducible rfl))
            case r2 =>
              try simp only [Act.put, List.setIfInBounds_toArray, List.set_cons_zero, List.set_cons_succ]
              refine takeD_pure (i := 2) (v := ?v3) rfl (by kernel_rfl) (by kernel_rfl) (by kernel_rfl) (by kernel_rfl) (fun _ _ _ h => h) (by rfl) ?y3 (fun _ => hHs) ?r3
              case y3 => (intro w; go_simp; (try with_reducible rfl))
              case r3 =>
                try simp only [Act.put, List.setIfInBounds_toArray, List.set_cons_zero, List.set_cons_succ]
                refine takeD_pure (i := 3) (v := ?v4) rfl (by kernel_rfl) (by kernel_rfl) (by kernel_rfl) (by kernel_rfl) (fun _ _ _ h => h) (by rfl) ?y4 (fun _ => hHs) ?r4
                case y4 => (intro w; go_simp; (try with_reducible rfl))
                case r4 =>
                  try simp only [Act.put, List.setIfInBounds_toArray, List.set_cons_zero, List.set_cons_succ]
                  refine takeD_load (i := 4) (v := ?v5) rfl (by kernel_rfl) (by kernel_rfl) (by kernel_rfl) (by kernel_rfl) (by kernel_rfl) (by kernel_rfl) (fun _ _ _ h => h) (by rfl) ?y5 hHs ?r5
                  case y5 => (intro w hSw; obtain ⟨s0, s1, s2, s3⟩ := hSw; go_simp; (try with_reducible rfl))
                  case r5 =>
                    try simp only [Act.put, List.setIfInBounds_toArray, List.set_cons_zero, List.set_cons_succ]
                    refine takeD_load (i := 5) (v := ?v6) rfl (by kernel_rfl) (by kernel_rfl) (by kernel_rfl) (by kernel_rfl) (by kernel_rfl) (by kernel_rfl) (fun _ _ _ h => h) (by rfl) ?y6 hHs ?r6
                    case y6 => (intro w hSw; obtain ⟨s0, s1, s2, s3⟩ := hSw; go_simp; (try with_reducible rfl))
                    case r6 =>
                      try simp only [Act.put, List.setIfInBounds_toArray, List.set_cons_zero, List.set_cons_succ]
                      refine wpAnyD_ready (rs := [6]) (by kernel_rfl) (by simp) ?b7
                      case b7 =>
                        refine consD rfl (fun K hK => ?s8) ?m8
                        case s8 =>
                          go_simp
                          have hHs : (w7.drew.alloc (.cells (thV ⟨d2, fs2, q.t⟩).toArray 132)).cell? ⟨ob, 1, none⟩ = some v ∧ (w7.drew.alloc (.cells (thV ⟨d2, fs2, q.t⟩).toArray 132)).cell? ⟨wr.heap.size, 0, none⟩ = some (.iface d2.T d2.p) ∧ (w7.drew.alloc (.cells (thV ⟨d2, fs2, q.t⟩).toArray 132)).cell? ⟨wr.heap.size, 1, none⟩ = some (.int .i64 q.t.steps) ∧ (w7.drew.alloc (.cells (thV ⟨d2, fs2, q.t⟩).toArray 132)).cell? ⟨wr.heap.size, 2, none⟩ = some (.int .i64 q.t.looks) := ⟨((Ch.refl (fun _ => False) _).alloc _).keeps hHs.1 (fun e => e), ((Ch.refl (fun _ => False) _).alloc _).keeps hHs.2.1 (fun e => e), ((Ch.refl (fun _ => False) _).alloc _).keeps hHs.2.2.1 (fun e => e), ((Ch.refl (fun _ => False) _).alloc _).keeps hHs.2.2.2 (fun e => e)⟩
                          refine hK.out _ _ (fun _ => hHs) ?n8
                          case n8 =>
                            clear hK K
                            try simp only [Act.put, List.setIfInBounds_toArray, List.set_cons_zero, List.set_cons_succ]
                            refine wpAnyD_ready (rs := [7]) (by kernel_rfl) (by simp) ?b9
                            case b9 =>
                              refine consD rfl (fun K hK => ?s10) ?m10
                              case s10 =>
                                have hNL := HNL.out
                                refine step_append_rd rfl (.tmp 32) (.tmp 34) 89 rfl 0 132 i0 _ 3 32 Try.underlying89 hi0 hz0 hz1 hz2 rfl (by omega) v N.qs.length (thVs N.qs) rfl hown7 (some ⟨w7.drew.heap.size, 0, none⟩) 1 1 (thV ⟨d2, fs2, q.t⟩) rfl (Rd.of_blk (G := fun _ => True) (Blk.new _ _ _) (List.prefix_refl _) trivial) (fun h => by cases h) rfl (by simp [thV, Value.oneCell']) (by unfold maxLen; omega) (by omega) (Nat.zero_le _) ?_
                                intro v8 w8 hown8 hch8 hat8
                                clear hNL
                                obtain ⟨A8, c8, rfl, _, _⟩ := own_slice hown8
                                have hC8 : w8.cell? ⟨ob, 1, none⟩ = some v := hch8.keeps hHs.1 hvob
                                have hfr8 : w8.frozen? ⟨ob, 1, none⟩ = false := by
                                  rw [hch8.frozen (p := ⟨ob, 1, none⟩) (by simp only [World.size_alloc, World.size_drew]; omega) hvob]
                                  have h2 := hS.at_.hd
                                  rw [hS.r] at h2
                                  exact ((h2.keep (Ch.of_below (hB6.drew) (fun _ => False)) (fun e => e)).keep ((Ch.refl (fun _ => False) _).alloc _) (fun e => e)).frozen 1
                                have hob8 : ob < w8.heap.size := World.block_lt_of_cell? _ _ hC8
                                have hx8 : ∀ i u, (w7.drew.alloc (.cells (thV ⟨d2, fs2, q.t⟩).toArray 132)).cell? ⟨wr.heap.size, i, none⟩ = some u → w8.cell? ⟨wr.heap.size, i, none⟩ = some u := fun i u hu => hch8.keeps hu (fun e => by
                                  have h1 := hS.at_.own
                                  rw [hS.lv] at h1
                                  obtain ⟨cs, hB⟩ := own_ty h1 e
                                  exact Nat.lt_irrefl _ hB.lt)
                                have hHs := And.intro hC8 (And.intro (hx8 _ _ hHs.2.1) (And.intro (hx8 _ _ hHs.2.2.1) (hx8 _ _ hHs.2.2.2)))
                                refine hK.out _ _ (fun _ => hHs) ?n10
                                case n10 =>
                                  clear hK K
                                  try simp only [Act.put, List.setIfInBounds_toArray, List.set_cons_zero, List.set_cons_succ]
                                  refine takeD_pure (i := 8) (v := ?v11) rfl (by kernel_rfl) (by kernel_rfl) (by kernel_rfl) (by kernel_rfl) (fun _ _ _ h => h) (by rfl) ?y11 (fun _ => hHs) ?r11
                                  case y11 => (intro w; go_simp; (try with_reducible rfl))
                                  case r11 =>
                                    try simp only [Act.put, List.setIfInBounds_toArray, List.set_cons_zero, List.set_cons_succ]
                                    refine takeD_pure (i := 9) (v := ?v12) rfl (by kernel_rfl) (by kernel_rfl) (by kernel_rfl) (by kernel_rfl) (fun _ _ _ h => h) (by rfl) ?y12 (fun _ => hHs) ?r12
                                    case y12 => (intro w; go_simp; (try with_reducible rfl))
                                    case r12 =>
                                      try simp only [Act.put, List.setIfInBounds_toArray, List.set_cons_zero, List.set_cons_succ]
                                      refine wpAnyD_ready (rs := [10]) (by kernel_rfl) (by simp) ?b13
                                      case b13 =>
                                        refine consD rfl (fun K hK => ?s14) ?m14
                                        case s14 =>
                                          have hfin := HG.out w8 _ (by rw [hS.lv]; exact hch8) hown8 (by rw [hS.lv]; exact hat8) (by have := HNL.out; omega)
                                          rw [hS.r] at hfin
                                          have HFN := Lib.hid hfin
                                          clear hfin
                                          go_simp
                                          refine hK.out _ _ (noD_no (by kernel_rfl)) ?n14
                                          case n14 =>
                                            clear hK K
                                            try simp only [Act.put]
                                            refine wpAnyD_done (by kernel_rfl) ?_ _
                                            go_wp2_with fail
                                            go_meet
                                            obtain ⟨k1, k2, k3⟩ := HFN.out
                                            refine ⟨_, _, ⟨hS.below.trans (k2.below (fun k _ hf => hS.lo k hf) hS.below.size), k1, rfl, rfl, by rw [HTK.out, ← hS.ts]; simp, fun k hk => ?_⟩⟩
                                            rcases k3 k hk with e | e | e
                                            · exact hS.lo k e
                                            · exact Nat.le_trans hS.below.size e
                                            · rw [HQS.out] at e; cases e
                                        case m14 =>
                                          exact AllReadyD.nil
                              case m10 =>
                                exact AllReadyD.nil
                        case m8 =>
                          exact AllReadyD.nil
      case rest =>
        obtain ⟨v2, N2, hS2⟩ := hcut
        go_wp2
        go_roundw
        case rel => exact ⟨k + 1, v2, N2, by omega, by go_num, hS2⟩
        case measure => simp [intOf]; omega
    · obtain rfl : k = M.qs.length := by omega
      rw [List.take_length] at hS
      go_wp2
      go_ret
      exact ⟨hS.below, N, by rw [hS.r]; rfl, hS.at_, hS.ts, hS.lo⟩
end Go.Proofs.Ytmbofohdjdipdaa
