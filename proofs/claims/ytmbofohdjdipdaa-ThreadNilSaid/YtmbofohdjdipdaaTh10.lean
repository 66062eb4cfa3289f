/-
  Contracts of package thread: threads that are added, or given another program.
-/
import Derived.Test.YtmbofohdjdipdaaTh9b
namespace Go.Proofs.Ytmbofohdjdipdaa
open Go.RowKit

def MaP (w : World) (M : MaR) (ws : List Int) (ts : List Thr) (sh : List Nat) (v : Value) (e : Ending) (w' : World) : Prop :=
  e = .returned v ∧ ∃ M', MaAt w' M' ws ∧ M'.qs.map (·.t) = ts ∧ M'.r = M.r ∧ (∀ k, M'.foot k → M.foot k ∨ w.heap.size ≤ k ∨ k ∈ sh) ∧ Ch M.foot w w'
theorem thInfo : (Try.prog.info? 132).map (fun i => (i.zero, i.size, i.bytes)) = some (some (.agg #[.nilIface, .int .i64 0, .int .i64 0]), 3, 32) := by kernel_rfl
theorem MaAt.grow {w w6 w8 : World} {M : MaR} {ws : List Int} {d : Pif} {fs : List Nat} {t : Thr} {v8 : Value} {T : TypeId} {xs : Array Value} (h : MaAt w M ws) (h6 : Below w.heap.size w w6) (hp : ProgAt w6 d fs t.x)
    (hfs : ∀ k ∈ fs, w.heap.size ≤ k ∨ k ∈ t.x.shares) (hsh : ∀ k ∈ t.x.shares, ¬ M.foot k) (h8 : Ch (fun k => M.lv.ownBlock = some k) (w6.alloc (.cells xs T)) w8)
    (hown : w8.ownsRow 0 132 3 v8 (M.qs.length + 1) (thVs M.qs ++ thV ⟨d, fs, t⟩)) (hv8 : v8.ownBlock = M.lv.ownBlock ∨ v8.ownBlock = some (w6.alloc (.cells xs T)).heap.size) (hn : M.qs.length < 64) :
    MaAt (w8.setCell ⟨M.r, 1, none⟩ v8) ⟨M.r, M.b, M.g, M.c, v8, M.qs ++ [⟨d, fs, t⟩]⟩ ws ∧ Ch M.foot w (w8.setCell ⟨M.r, 1, none⟩ v8) ∧
      (∀ k, (⟨M.r, M.b, M.g, M.c, v8, M.qs ++ [⟨d, fs, t⟩]⟩ : MaR).foot k → M.foot k ∨ w.heap.size ≤ k ∨ k ∈ t.x.shares) := by
  have hb7 : Below w.heap.size w (w6.alloc (.cells xs T)) := h6.alloc h6.size _
  have h7 := h.below hb7
  have hp7 := hp.below ((Below.refl _ _).alloc (Nat.le_refl _) (.cells xs T))
  have hz := hb7.size
  have hrow : M.lv.ownBlock ≠ some M.r := fun e => by
    obtain ⟨cs, hB⟩ := own_ty h7.own e
    exact Blk.ne hB h7.hd (by decide) rfl
  have hm7 : Mut (w6.alloc (.cells xs T)) (fun k => M.lv.ownBlock = some k) := fun k hk _ => h7.ty k (.inr (.inr (.inr (.inl hk))))
  have own_prog : ∀ {d : Pif} {fs : List Nat} {x : Pg}, ProgAt (w6.alloc (.cells xs T)) d fs x → ∀ k ∈ fs, M.lv.ownBlock ≠ some k := fun hp k hk e => by
    obtain ⟨cs, hB⟩ := own_ty h7.own e
    obtain ⟨tt, cs', hB', ht⟩ := hp.ty k hk
    refine Blk.ne hB hB' (fun e => ?_) rfl
    subst e
    revert ht
    unfold progTy
    decide
  have hd8 := h7.hd.keep h8 hrow
  have hrt : ∀ {t : TypeId} {cs : List Value} {k : Nat}, Blk w8 k t cs → t ≠ 91 → k ≠ M.r := fun hb ht e => by
    subst e
    exact Blk.ne hb hd8 ht rfl
  have hset : Ch (fun k => k = M.r) w8 (w8.setCell ⟨M.r, 1, none⟩ v8) := (Ch.refl (fun k => k = M.r) w8).setCell (p := ⟨M.r, 1, none⟩) (.inl rfl) v8
  have hm8 : Mut w8 (fun k => k = M.r) := Mut.one hd8 (by unfold fixTy; decide)
  have prAll : ∀ {d : Pif} {fs : List Nat} {x : Pg}, ProgAt (w6.alloc (.cells xs T)) d fs x → ProgAt (w8.setCell ⟨M.r, 1, none⟩ v8) d fs x := fun hp => by
    have hp8 := hp.keep h8 hm7 (own_prog hp)
    refine hp8.keep hset hm8 (fun k hk => ?_)
    obtain ⟨tt, cs', hB', ht⟩ := hp8.ty k hk
    refine hrt hB' (fun e => ?_)
    subst e
    revert ht
    unfold progTy
    decide
  have hmb : M.lv.ownBlock ≠ some M.b := fun e => by
    obtain ⟨cs, hB⟩ := own_ty h7.own e
    exact Blk.ne hB h7.mem.hd (by decide) rfl
  have hmg : M.lv.ownBlock ≠ some M.g := fun e => by
    obtain ⟨cs, hB⟩ := own_ty h7.own e
    obtain ⟨sp, hr⟩ := h7.mem.row
    exact Blk.ne hB hr (by decide) rfl
  have hmem8 := h7.mem.keep h8 hmb hmg
  have hmem9 := hmem8.keep hset (hrt hmem8.hd (by decide)) (by obtain ⟨sp, hr⟩ := hmem8.row; exact hrt hr (by decide))
  have hown9 : (w8.setCell ⟨M.r, 1, none⟩ v8).ownsRow 0 132 3 v8 (M.qs.length + 1) (thVs M.qs ++ thV ⟨d, fs, t⟩) := own_keep hown hset (fun b hb _ => by
    obtain ⟨cs, hB⟩ := own_ty hown hb
    exact hrt hB (by decide))
  refine ⟨⟨Blk.set hd8 1 v8, hmem9, ?_, fun q hq => ?_, ?_, by simp only [List.length_append, List.length_cons, List.length_nil]; omega⟩, ?_, fun k hk => ?_⟩
  · simp only [List.length_append, List.length_cons, List.length_nil, thVs_append]
    simpa [thVs] using hown9
  · rcases List.mem_append.1 hq with hq | hq
    · exact prAll (h7.pr q hq)
    · rw [List.mem_singleton] at hq
      subst hq
      exact prAll hp7
  · rw [List.pairwise_append]
    refine ⟨h.dj, List.pairwise_singleton _ _, fun p hp' q hq k hk hk' => ?_⟩
    rw [List.mem_singleton] at hq
    subst hq
    have hf : M.foot k := .inr (.inr (.inr (.inr ⟨p, hp', hk⟩)))
    rcases hfs k hk' with e | e
    · have := h.lt k hf; omega
    · exact hsh k e hf
  · exact (((Ch.of_below hb7 M.foot).trans h8 (fun k _ e => .inr (.inr (.inr (.inl e))))).setCell (p := ⟨M.r, 1, none⟩) (.inl (.inl rfl)) _)
  · rcases hk with rfl | rfl | rfl | hk | ⟨q, hq, hk⟩
    · exact .inl (.inl rfl)
    · exact .inl (.inr (.inl rfl))
    · exact .inl (.inr (.inr (.inl rfl)))
    · have hk' : v8.ownBlock = some k := hk
      rcases hv8 with e | e
      · rw [e] at hk'
        exact .inl (.inr (.inr (.inr (.inl hk'))))
      · rw [e] at hk'
        injection hk' with hk'
        exact .inr (.inl (by omega))
    · rcases List.mem_append.1 hq with hq | hq
      · exact .inl (.inr (.inr (.inr (.inr ⟨q, hq, hk⟩))))
      · rw [List.mem_singleton] at hq
        subst hq
        exact .inr (hfs k hk)
set_option maxRecDepth 100000 in
set_option maxHeartbeats 1000000 in
theorem add_ok (M : MaR) (ws : List Int) (d : Pif) (fs : List Nat) (x : Pg) (w : World) (h : MaAt w M ws) (hp : ProgAt w d fs x) (hsh : ∀ k ∈ x.shares, ¬ M.foot k) (hn : M.qs.length < 64) :
    Calls Try.prog 21 #[.pointer (some ⟨M.r, 0, none⟩), d.v] w (MaP w M ws (M.qs.map (·.t) ++ [⟨x, 0, 0⟩]) x.shares (.tuple #[.int .i64 M.qs.length, .int .i64 0])) := by
  obtain ⟨i0, hi0, hz0, hz1, hz2⟩ := info_parts thInfo
  have hcp := copied_prog hp
  have hmz := fun W hW => mazero_ok M ws W hW
  have hrl := h.hd.lt
  go_enter Try.func21, Try.ntmps21
  go_upto_region 4 with (first | (go_at_call 65; refine hcp.mono ?_; rintro e w6 ⟨hb6, d2, fs2, rfl, hp6, hf6⟩; have h6 := h.below hb6) | (go_at_call 60; refine (hmz _ h6).mono ?_; rintro e w1 ⟨rfl, rfl⟩))
  have c1 := h6.c1
  have hfr := h6.hd.frozen 1
  obtain ⟨A, c, hl⟩ := h6.lv
  have c1' := c1
  rw [hl] at c1
  have hown7 : (w6.alloc (.cells (thV ⟨d2, fs2, ⟨x, 0, 0⟩⟩).toArray 132)).ownsRow 0 132 3 (.slice A M.qs.length c) M.qs.length (thVs M.qs) := hl ▸ own_keep h6.own ((Ch.refl (fun _ => False) _).alloc _) (fun _ _ _ e => e)
  have d1 : decide ((64 : Int) ≤ M.qs.length) = false := decide_eq_false (by omega)
  have hrow : M.lv.ownBlock ≠ some M.r := fun e => by
    obtain ⟨cs, hB⟩ := own_ty h6.own e
    exact Blk.ne hB h6.hd (by decide) rfl
  rw [hl] at hrow
  have hgrow := fun w8 v8 => h.grow (t := ⟨x, 0, 0⟩) (v8 := v8) (w8 := w8) (T := 132) (xs := (thV ⟨d2, fs2, ⟨x, 0, 0⟩⟩).toArray) hb6 hp6 hf6 hsh
  have HG := Lib.hid hgrow
  have HL := Lib.hid hl
  obtain ⟨n, hnn⟩ : ∃ n, n = M.qs.length := ⟨_, rfl⟩
  have HN := Lib.hid hnn
  rw [← hnn] at hown7 d1 c1 hn
  clear hgrow hl hmz hcp c1' hnn
  go_wp2_with (at_builtin; refine wpList_append_rd _ rfl _ _ _ rfl 0 132 i0 _ 3 32 Try.underlying89 hi0 hz0 hz1 hz2 rfl (by omega) _ n (thVs M.qs) rfl hown7 (some ⟨w6.heap.size, 0, none⟩) 1 1 (thV ⟨d2, fs2, ⟨x, 0, 0⟩⟩) rfl (Rd.of_blk (G := fun _ => True) (Blk.new _ _ _) (List.prefix_refl _) trivial) (fun h => by cases h) rfl (by simp [thV, Value.oneCell']) (by unfold maxLen; omega) (by omega) (Nat.zero_le _) ?_)
  intro v8 w8 hown8 hch8 hat8
  obtain ⟨A8, c8, rfl, _, _⟩ := own_slice hown8
  have hz6 := h6.hd.lt
  have e1 : w8.cell? ⟨M.r, 1, none⟩ = some (.slice A n c) := hch8.keeps (((Ch.refl (fun _ => False) w6).alloc _).keeps c1 (fun e => e)) (by rw [← HN.out] at hrow; exact hrow)
  have ef : w8.frozen? ⟨M.r, 1, none⟩ = false := by
    rw [hch8.frozen (p := ⟨M.r, 1, none⟩) (by simp only [World.size_alloc]; omega) (by rw [← HN.out] at hrow; exact hrow)]
    exact (h6.hd.keep ((Ch.refl (fun _ => False) w6).alloc _) (fun e => e)).frozen 1
  have er : M.r < w8.heap.size := World.block_lt_of_cell? _ _ e1
  have hfin := HG.out w8 (.slice A8 (n + 1) c8) (by rw [HL.out, ← HN.out]; exact hch8) (by rw [← HN.out]; exact hown8) (by rw [HL.out, ← HN.out, World.size_alloc]; exact hat8) (by rw [← HN.out]; exact hn)
  have HF := Lib.hid hfin
  clear hfin hown8 hch8 hat8 hown7
  go_wp2
  go_ret2
  obtain ⟨k1, k2, k3⟩ := HF.out
  refine ⟨?_, _, k1, by simp, rfl, k3, k2⟩
  rw [← HN.out]
  first | rfl | trace_state
theorem add_nil (M : MaR) (ws : List Int) (w : World) (h : MaAt w M ws) :
    Calls Try.prog 21 #[.pointer (some ⟨M.r, 0, none⟩), .nilIface] w fun e w' => e = .returned (.tuple #[.int .i64 0, .int .i64 1]) ∧ w = w' := by
  have hmz := mazero_ok M ws w h
  go_enter Try.func21, Try.ntmps21
  go_wp2_with (first | (go_at_call 65; refine (copied_nil _).mono ?_; rintro e w1 ⟨rfl, rfl⟩) | (go_at_call 60; refine hmz.mono ?_; rintro e w1 ⟨rfl, rfl⟩))
  go_ret2
  exact ⟨rfl, rfl⟩
theorem add_full (M : MaR) (ws : List Int) (d : Pif) (fs : List Nat) (x : Pg) (w : World) (h : MaAt w M ws) (hp : ProgAt w d fs x) (hn : M.qs.length = 64) :
    Calls Try.prog 21 #[.pointer (some ⟨M.r, 0, none⟩), d.v] w fun e w' => e = .returned (.tuple #[.int .i64 0, .int .i64 7]) ∧ Below w.heap.size w w' := by
  have hcp := copied_prog hp
  have hmz := fun W hW => mazero_ok M ws W hW
  have hc1 : ∀ W, MaAt W M ws → ∃ A c, W.cell? ⟨M.r, 1, none⟩ = some (.slice A 64 c) := fun W hW => by
    obtain ⟨A, c, hl⟩ := hW.lv
    have := hW.c1
    rw [hl, hn] at this
    exact ⟨A, c, this⟩
  have HC := Lib.hid hc1
  clear hc1 hn
  go_enter Try.func21, Try.ntmps21
  go_upto_region 4 with (first | (go_at_call 65; refine hcp.mono ?_; rintro e w6 ⟨hb6, d2, fs2, rfl, hp6, hf6⟩; have h6 := h.below hb6) | (go_at_call 60; refine (hmz _ h6).mono ?_; rintro e w1 ⟨rfl, rfl⟩))
  obtain ⟨A, c, c1⟩ := HC.out _ h6
  go_wp2
  go_ret2
  exact ⟨rfl, hb6⟩
/-- another thread in a place -/
theorem MaAt.setQ {w w' : World} {M : MaR} {ws ws' : List Int} {j lb : Nat} {q q' : ThR} {F : Nat → Prop} {c : Nat} (h : MaAt w M ws) (hq : M.qs[j]? = some q) (_hlv : M.lv = .slice (some ⟨lb, 0, none⟩) M.qs.length c)
    (hc : Ch F w w') (hF : Mut w F) (hr : ¬ F M.r) (hmem : MemAt w' M.b M.g M.c ws') (hown : w'.ownsRow 0 132 3 M.lv M.qs.length (thVs (M.qs.set j q')))
    (hpr : ProgAt w' q'.d q'.fs q'.t.x) (hot : ∀ p ∈ M.qs, (∀ k ∈ p.fs, k ∉ q.fs) → ∀ k ∈ p.fs, ¬ F k) (hsub : ∀ k ∈ q'.fs, k ∈ q.fs ∨ ¬ M.foot k) :
    MaAt w' { M with qs := M.qs.set j q' } ws' ∧ (∀ k, ({ M with qs := M.qs.set j q' } : MaR).foot k → M.foot k ∨ k ∈ q'.fs) := by
  have hjl := (List.getElem?_eq_some_iff.1 hq).1
  have hqj : M.qs[j] = q := (List.getElem?_eq_some_iff.1 hq).2
  have hdj := List.pairwise_iff_getElem.1 h.dj
  have oth : ∀ i (hi : i < M.qs.length), i ≠ j → ∀ k ∈ M.qs[i].fs, k ∉ q.fs := fun i hi hne k hk hk' => by
    rcases Nat.lt_or_gt_of_ne hne with hl | hl
    · exact hdj i j hi hjl hl k hk (hqj ▸ hk')
    · exact hdj j i hjl hi hl k (hqj ▸ hk') hk
  refine ⟨⟨h.hd.keep hc hr, hmem, by simpa using hown, fun p hp => ?_, ?_, by simpa using h.n64⟩, fun k hk => ?_⟩
  · obtain ⟨i, hi, rfl⟩ := List.getElem_of_mem hp
    have hi' : i < M.qs.length := by simpa using hi
    rw [List.getElem_set]
    split
    · exact hpr
    · rename_i hne
      have hm := List.getElem_mem hi'
      exact (h.pr _ hm).keep hc hF (hot _ hm (oth i hi' (fun e => hne e.symm)))
  · rw [List.pairwise_iff_getElem]
    intro i i2 hi hi2 hlt k hk hk'
    have hi' : i < M.qs.length := by simpa using hi
    have hi2' : i2 < M.qs.length := by simpa using hi2
    rw [List.getElem_set] at hk hk'
    by_cases e1 : j = i
    · rw [if_pos e1] at hk
      rw [if_neg (by omega)] at hk'
      rcases hsub k hk with h1 | h1
      · exact oth i2 hi2' (by omega) k hk' h1
      · exact h1 (.inr (.inr (.inr (.inr ⟨_, List.getElem_mem hi2', hk'⟩))))
    · rw [if_neg e1] at hk
      by_cases e2 : j = i2
      · rw [if_pos e2] at hk'
        rcases hsub k hk' with h1 | h1
        · exact oth i hi' (by omega) k hk h1
        · exact h1 (.inr (.inr (.inr (.inr ⟨_, List.getElem_mem hi', hk⟩))))
      · rw [if_neg e2] at hk'
        exact hdj i i2 hi' hi2' hlt k hk hk'
  · rcases hk with rfl | rfl | rfl | hk | ⟨p, hp, hk⟩
    · exact .inl (.inl rfl)
    · exact .inl (.inr (.inl rfl))
    · exact .inl (.inr (.inr (.inl rfl)))
    · exact .inl (.inr (.inr (.inr (.inl hk))))
    · rcases List.mem_or_eq_of_mem_set hp with hp | rfl
      · exact .inl (.inr (.inr (.inr (.inr ⟨p, hp, hk⟩))))
      · exact .inr hk
theorem put_nil (M : MaR) (ws : List Int) (t : Int) (w : World) (h : MaAt w M ws) :
    Calls Try.prog 35 #[.pointer (some ⟨M.r, 0, none⟩), .int .i64 t, .nilIface] w fun e w' => e = .returned (.int .i64 1) ∧ w = w' := by
  have hmz := mazero_ok M ws w h
  go_enter Try.func35, Try.ntmps35
  go_wp2_with (first | (go_at_call 65; refine (copied_nil _).mono ?_; rintro e w1 ⟨rfl, rfl⟩) | (go_at_call 60; refine hmz.mono ?_; rintro e w1 ⟨rfl, rfl⟩))
  go_ret
  exact ⟨rfl, rfl⟩
theorem put_out (M : MaR) (ws : List Int) (t : Int) (d : Pif) (fs : List Nat) (x : Pg) (w : World) (h : MaAt w M ws) (hp : ProgAt w d fs x) (ht : t < 0 ∨ (M.qs.length : Int) ≤ t) :
    Calls Try.prog 35 #[.pointer (some ⟨M.r, 0, none⟩), .int .i64 t, d.v] w fun e w' => e = .returned (.int .i64 2) ∧ Below w.heap.size w w' := by
  have hcp := copied_prog hp
  have hmz := fun W hW => mazero_ok M ws W hW
  have hmn := fun W hW => manone_ok M ws t W hW
  rw [noneB_out ht] at hmn
  clear ht
  go_enter Try.func35, Try.ntmps35
  go_wp2_with (first | (go_at_call 65; refine hcp.mono ?_; rintro e w6 ⟨hb6, d2, fs2, rfl, hp6, hf6⟩; have h6 := h.below hb6) | (go_at_call 60; refine (hmz _ h6).mono ?_; rintro e w1 ⟨rfl, rfl⟩) | (go_at_call 61; refine (hmn _ h6).mono ?_; rintro e w1 ⟨rfl, rfl⟩))
  go_ret
  exact ⟨rfl, hb6⟩
section
variable (M : MaR) (ws : List Int) (j : Nat) (q : ThR) (d : Pif) (fs : List Nat) (x : Pg) (w : World) (h : MaAt w M ws) (hq : M.qs[j]? = some q) (hp : ProgAt w d fs x)
include h hq hp
theorem put_state (hd : q.t.x.done = false) :
    Calls Try.prog 35 #[.pointer (some ⟨M.r, 0, none⟩), .int .i64 j, d.v] w fun e w' => e = .returned (.int .i64 8) ∧ Below w.heap.size w w' := by
  have hj : j < M.qs.length := (List.getElem?_eq_some_iff.1 hq).1
  have hcp := copied_prog hp
  have hmz := fun W hW => mazero_ok M ws W hW
  have hmn := fun W hW => manone_ok M ws j W hW
  rw [noneB_in hj] at hmn
  have hok := (h.pr q (List.mem_of_getElem? hq)).ok
  have z1 := hok.nd
  have z2 := hok.md
  have z3 := hok.kd
  have i1 : (0 : Int) ≤ j := Int.natCast_nonneg _
  have i2 : (j : Int) < M.qs.length := by omega
  have hdn := fun W (hW : ProgAt W q.d q.fs q.t.x) => p_done hW
  rw [hd] at hdn
  have hat := fun W (hW : MaAt W M ws) => hW.at hq
  have hpr := fun W (hW : MaAt W M ws) => hW.pr q (List.mem_of_getElem? hq)
  have HA := Lib.hid hat
  have HP := Lib.hid hpr
  clear hat hpr hd
  go_enter Try.func35, Try.ntmps35
  go_upto_region 6 with (first | (go_at_call 65; refine hcp.mono ?_; rintro e w6 ⟨hb6, d2, fs2, rfl, hp6, hf6⟩; have h6 := h.below hb6) | (go_at_call 60; refine (hmz _ h6).mono ?_; rintro e w1 ⟨rfl, rfl⟩) | (go_at_call 61; refine (hmn _ h6).mono ?_; rintro e w1 ⟨rfl, rfl⟩))
  obtain ⟨lb, c, hlv, hcl, hcm, _, e0, e1, e2⟩ := HA.out _ h6
  have c1 := h6.c1
  rw [hlv] at c1
  have hq6 := HP.out _ h6
  clear hlv
  go_wp2_with ((with_reducible refine (hdn _ hq6).mono ?_); rintro e w1 ⟨rfl, rfl⟩)
  go_ret
  exact ⟨rfl, hb6⟩
set_option maxHeartbeats 1000000 in
theorem put_ok (hd : q.t.x.done = true) (hsh : x.shares = []) :
    Calls Try.prog 35 #[.pointer (some ⟨M.r, 0, none⟩), .int .i64 j, d.v] w (MaP w M ws ((M.qs.map (·.t)).set j ⟨x, q.t.steps, q.t.looks⟩) [] (.int .i64 0)) := by
  have hj : j < M.qs.length := (List.getElem?_eq_some_iff.1 hq).1
  have hcp := copied_prog hp
  have hmz := fun W hW => mazero_ok M ws W hW
  have hmn := fun W hW => manone_ok M ws j W hW
  rw [noneB_in hj] at hmn
  have hok := (h.pr q (List.mem_of_getElem? hq)).ok
  have z1 := hok.nd
  have z2 := hok.md
  have z3 := hok.kd
  have i1 : (0 : Int) ≤ j := Int.natCast_nonneg _
  have i2 : (j : Int) < M.qs.length := by omega
  have hdn := fun W (hW : ProgAt W q.d q.fs q.t.x) => p_done hW
  rw [hd] at hdn
  have hat := fun W (hW : MaAt W M ws) => hW.at hq
  have hpr := fun W (hW : MaAt W M ws) => hW.pr q (List.mem_of_getElem? hq)
  have HA := Lib.hid hat
  have HP := Lib.hid hpr
  have HS := Lib.hid hsh
  clear hat hpr hd hsh
  go_enter Try.func35, Try.ntmps35
  go_upto_region 6 with (first | (go_at_call 65; refine hcp.mono ?_; rintro e w6 ⟨hb6, d2, fs2, rfl, hp6, hf6⟩; have h6 := h.below hb6) | (go_at_call 60; refine (hmz _ h6).mono ?_; rintro e w1 ⟨rfl, rfl⟩) | (go_at_call 61; refine (hmn _ h6).mono ?_; rintro e w1 ⟨rfl, rfl⟩))
  obtain ⟨lb, c, hlv, hcl, hcm, ⟨sp, hbl⟩, e0, e1, e2⟩ := HA.out _ h6
  have c1 := h6.c1
  rw [hlv] at c1
  have hq6 := HP.out _ h6
  have hfr := hbl.frozen (j * 3)
  have hll := hbl.lt
  have HL := Lib.hid hlv
  have hF : Mut w6 (fun k => k = lb) := Mut.one hbl (by unfold fixTy; decide)
  have hset := (Ch.refl (fun k => k = lb) w6).setCell (p := ⟨lb, j * 3, none⟩) (.inl rfl) d2.v
  have nty : ∀ {t : TypeId} {cs : List Value} {k : Nat}, Blk w6 k t cs → t ≠ 132 → k ≠ lb := fun hb ht e => by
    subst e
    exact Blk.ne hb hbl ht rfl
  have nprog : ∀ {d : Pif} {fs : List Nat} {x : Pg}, ProgAt w6 d fs x → ∀ k ∈ fs, k ≠ lb := fun hp k hk => by
    obtain ⟨t, cs', hB', ht⟩ := hp.ty k hk
    refine nty hB' (fun e => ?_)
    subst e
    revert ht
    unfold progTy
    decide
  have hownS := own_set (hlv ▸ h6.own) (j * 3) d2.v
  have hts := thVs_set ⟨d2, fs2, ⟨x, q.t.steps, q.t.looks⟩⟩ 0 d2.v (by omega) M.qs j q hq rfl
  rw [Nat.add_zero] at hts
  rw [hts] at hownS
  have hmemS : MemAt (w6.setCell ⟨lb, j * 3, none⟩ d2.v) M.b M.g M.c ws := h6.mem.keep hset (nty h6.mem.hd (by decide)) (by obtain ⟨sp2, hr⟩ := h6.mem.row; exact nty hr (by decide))
  have hQ := h6.setQ (q' := ⟨d2, fs2, ⟨x, q.t.steps, q.t.looks⟩⟩) hq hlv hset hF (nty h6.hd (by decide)) hmemS (by rw [hlv]; exact hownS) (hp6.keep hset hF (nprog hp6)) (fun p hp _ k hk => nprog (h6.pr p hp) k hk)
  have hfin : ∀ (v : Value) W', W' = w6.setCell ⟨lb, j * 3, none⟩ d2.v → MaP w M ws ((M.qs.map (·.t)).set j ⟨x, q.t.steps, q.t.looks⟩) [] v (.returned v) W' := fun v W' e => by
    subst e
    obtain ⟨k1, k2⟩ := hQ (fun k hk => .inr (fun hf => by
      rcases hf6 k hk with e | e
      · have := h.lt k hf; omega
      · rw [HS.out] at e; cases e))
    refine ⟨rfl, _, k1, by simp [List.map_set], rfl, fun k hk => ?_, ?_⟩
    · rcases k2 k hk with e | e
      · exact .inl e
      · rcases hf6 k e with e | e
        · exact .inr (.inl e)
        · exact .inr (.inr (by rw [HS.out] at e; exact e))
    · exact (Ch.of_below hb6 M.foot).trans hset (fun k _ e => .inr (.inr (.inr (.inl (by subst e; rw [HL.out]; rfl)))))
  have HF := Lib.hid hfin
  clear hlv hfin hQ hmemS hownS hts
  go_wp2_with ((with_reducible refine (hdn _ hq6).mono ?_); rintro e w1 ⟨rfl, rfl⟩)
  go_ret
  exact HF.out _ _ rfl
end
end Go.Proofs.Ytmbofohdjdipdaa
