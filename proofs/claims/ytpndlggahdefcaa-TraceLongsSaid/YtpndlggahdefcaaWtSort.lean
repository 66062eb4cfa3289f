/-
  A row of waits, sorted by where they begin.
-/
import Derived.Test.YtpndlggahdefcaaLay13
import Derived.Test.YtpndlggahdefcaaWtMap
import Derived.Deep.DeepCutAuto
import Derived.IntWalk
namespace Go.Proofs.Ytpndlggahdefcaa
open Go.RowKit Go.Sort
set_option linter.unusedSimpArgs false
set_option linter.unusedVariables false

/-- a wait that begins at an index -/
structure WtB where
  x : Wt
  h : 0 ≤ x.f ∧ x.f ≤ 4611686018427387904
instance : Inhabited WtB := ⟨⟨⟨0, 0, 0, 0, 0⟩, by decide⟩⟩
def encW (x : WtB) : List Value := x.1.cells
def cmpW (x y : WtB) : Int := x.1.f - y.1.f
theorem swoW : SWO (ltOf cmpW) where
  irrefl x := by unfold ltOf cmpW; simp
  trans x y z h1 h2 := by unfold ltOf cmpW at *; simp at *; omega
  ntrans x y z h1 h2 := by unfold ltOf cmpW at *; simp at *; omega
set_option maxHeartbeats 1000000 in
theorem wcmp_ok (x y : WtB) (W : World) : Calls Try.prog 53 #[.agg (encW x).toArray, .agg (encW y).toArray] W fun e w' => e = .returned (.int .i64 (cmpW x y)) ∧ ∃ q os', w' = grow (W.drewN q) os' := by
  obtain ⟨⟨a, b, c, d, e⟩, h1, h2⟩ := x
  obtain ⟨⟨a', b', c', d', e'⟩, h1', h2'⟩ := y
  simp only at h1 h2 h1' h2'
  simp only [encW, Wt.cells, cmpW]
  go_enter Try.func53, Try.ntmps53
  go_wp2_with fail
  go_ret
  exact ⟨rfl, 0, _, by rw [alloc_eq_grow, alloc_eq_grow, grow_grow]; rfl⟩
theorem encW_len (x : WtB) : (encW x).length = 5 := rfl
theorem wt_one (x : Wt) : ∀ v ∈ x.cells, v.oneCell' = true := by
  intro v hv
  simp only [Wt.cells, List.mem_cons, List.not_mem_nil, or_false] at hv
  rcases hv with rfl | rfl | rfl | rfl | rfl <;> rfl
/-- rows of waits -/
def wts (l : List Wt) : List Value := (l.map Wt.cells).flatten
theorem wts_len (l : List Wt) : (wts l).length = l.length * 5 := by
  unfold wts
  rw [flatten_len (n := 5) (by intro r hr; obtain ⟨e, _, rfl⟩ := List.mem_map.1 hr; rfl), List.length_map]
theorem wts_append (l r : List Wt) : wts (l ++ r) = wts l ++ wts r := by simp [wts]
theorem wts_one (x : Wt) : wts [x] = x.cells := by simp [wts]
theorem wts_at {l : List Wt} {i : Nat} {x : Wt} (h : l[i]? = some x) {j : Nat} (hj : j < 5) : (wts l)[i * 5 + j]? = x.cells[j]? :=
  flatten_at (n := 5) (r := x.cells) (i := i) (xs := l.map Wt.cells) (by intro r hr; obtain ⟨e, _, rfl⟩ := List.mem_map.1 hr; rfl) (by rw [List.getElem?_map, h]; rfl) hj
theorem wts_flat (d : Array WtB) (t : Nat) (ht : t < d.size * 5) : (wts (d.toList.map (·.1)))[t]? = some (flatK encW 5 d)[t]! := by
  have hm : t % 5 < 5 := Nat.mod_lt _ (by omega)
  have hd : t / 5 < d.size := (Nat.div_lt_iff_lt_mul (by omega)).2 ht
  have hi : (d.toList.map (·.1))[t / 5]? = some (d[t / 5]!).1 := by
    rw [List.getElem?_map, Array.getElem?_toList, getElem!_pos d _ hd, Array.getElem?_eq_getElem hd]
    rfl
  have h2 := wts_at hi hm
  rw [show t / 5 * 5 + t % 5 = t by omega] at h2
  rw [h2, get_flatK _ _ _ t ht, getElem!_pos (encW d[t / 5]!) (t % 5) hm]
  exact List.getElem?_eq_getElem hm
theorem put_ch {enc : WtB → List Value} (w : World) (blk off n : Nat) (d : Array WtB) (os : Array Obj) : Ch (fun j => j = blk) w (sortWorldK enc 5 w blk off n d os) := by
  refine ⟨rfl, rfl, rfl, ?_, fun j hj hne => ?_⟩
  · show w.heap.size ≤ ((putRowK enc 5 (Sort.ahead w n) blk off d).heap ++ os).size
    rw [Array.size_append]
    have : (putRowK enc 5 (Sort.ahead w n) blk off d).heap.size = w.heap.size := Sort.size_putRow id (Sort.ahead w n) blk off _
    omega
  · show ((putRowK enc 5 (Sort.ahead w n) blk off d).heap ++ os)[j]? = w.heap[j]?
    have hs : (putRowK enc 5 (Sort.ahead w n) blk off d).heap.size = w.heap.size := Sort.size_putRow id (Sort.ahead w n) blk off _
    rw [Array.getElem?_append_left (by omega)]
    show (w.heap.modify blk _)[j]? = _
    rw [Array.getElem?_modify, if_neg (fun e => hne e.symm)]
theorem lift_wt : ∀ l : List Wt, (∀ x ∈ l, 0 ≤ x.f ∧ x.f ≤ 4611686018427387904) → ∃ d : List WtB, d.map (fun x => x.1) = l
  | [], _ => ⟨[], rfl⟩
  | x :: l, h => by
    obtain ⟨d, hd⟩ := lift_wt l (fun y hy => h y (by simp [hy]))
    exact ⟨⟨x, h x (by simp)⟩ :: d, by rw [List.map_cons, hd]⟩
theorem sort_waits (A : Option Addr) (c base : Nat) (l : List Wt) (hb : ∀ x ∈ l, 0 ≤ x.f ∧ x.f ≤ 4611686018427387904) (w : World) (hl : l.length < 4611686018427387904) (h : w.ownsRow base 60 5 (.slice A l.length c) l.length (wts l)) :
    Calls Try.prog 52 #[.slice A l.length c, .func (.func 53) #[] #[]] w fun e w' => e = .returned (.tuple #[]) ∧
      ∃ r : List Wt, r.Perm l ∧ r.Pairwise (fun x y => x.f ≤ y.f) ∧ Rd (fun b => base ≤ b) w' A (wts r) ∧ Ch (fun j => base ≤ j) w w' := by
  rcases h.2 with ⟨h1, h2⟩ | ⟨g, cap, cur, hA, hg, hblk, hcap, hmx, hcs, htk⟩
  · injection h1 with h1 h3 h4
    have hl0 : l = [] := List.eq_nil_of_length_eq_zero h2
    subst hl0
    subst h1
    refine (AnyF.slices_SortFunc_none { sortW with } none _ _ w).mono ?_
    rintro e w' ⟨rfl, rfl⟩
    exact ⟨rfl, [], List.Perm.nil, List.Pairwise.nil, Rd.nil _ _ _, Ch.refl _ _⟩
  · injection hA with hA1 hA2 hA3
    subst hA1 hA3
    obtain ⟨d, hd⟩ : ∃ d : Array WtB, d.toList.map (·.1) = l := by
      obtain ⟨d, hd⟩ := lift_wt l hb
      exact ⟨d.toArray, hd⟩
    have hds : d.size = l.length := by rw [← hd, List.length_map, Array.length_toList]
    have hlt : g < w.heap.size := (Array.getElem?_eq_some_iff.1 hblk).1
    have hH : HoldsK encW 5 w g 0 d := by
      intro j hj
      have hj2 : j < d.size * 5 := by simpa using hj
      have hw := wts_flat d j hj2
      rw [hd, ← htk] at hw
      have hcj : cur[j]? = some (flatK encW 5 d)[j]! := by
        rw [List.getElem?_take] at hw
        split at hw
        · simpa using hw
        · cases hw
      have hbk : Blk w g 60 cur.toList := by unfold Blk; simpa using hblk
      rw [Nat.zero_add, hbk.cell, hbk.frozen]
      exact ⟨by simpa using hcj, rfl⟩
    have eg : ∀ args w, (callFunc 53 args).run Try.prog w = .ok (.enter 53 args) w := enters_of Try.func53 (by kernel_rfl) rfl
    have hcmp : CmpLays Try.prog 53 #[] encW 5 cmpW g 0 d.size w := fun _ _ _ _ x y => wcmp_ok x y _
    have hcon := AnyQ.slices_SortFunc sortW 5 Try.isAgg60 Try.sizeOf60 encW encW_len (fun x => wt_one x.1) cmpW swoW 53 #[] g 0 c d w eg hcmp hH hlt (by omega)
    rw [hds] at hcon
    refine hcon.mono ?_
    rintro e w' ⟨rfl, d', n, os, hp, hs, rfl⟩
    have hds' : d'.size = d.size := hp.1
    have hH' := holdsK_sortWorldK encW 5 w g 0 n d d' os hlt hH hds'
    refine ⟨rfl, d'.toList.map (·.1), ?_, ?_, ?_, (put_ch w g 0 n d' os).mono (fun j _ e => by subst e; exact hg)⟩
    · have h3 := hp.2.2
      rw [← hd]
      refine List.Perm.map _ ?_
      have e1 : d'.extract 0 l.length = d' := by rw [← hds, ← hds']; exact Array.extract_size
      have e2 : d.extract 0 l.length = d := by rw [← hds]; exact Array.extract_size
      rw [e1, e2] at h3
      exact h3
    · rw [List.pairwise_map, List.pairwise_iff_getElem]
      intro i j hi hj hij
      have h3 := hs i j (Nat.zero_le _) hij (by rw [Array.length_toList] at hj; omega)
      rw [Array.length_toList] at hi hj
      rw [getElem!_pos d' i hi, getElem!_pos d' j hj] at h3
      unfold ltOf cmpW at h3
      simp only [decide_eq_false_iff_not] at h3
      simp only [Array.getElem_toList]
      omega
    · intro _
      refine ⟨g, 0, rfl, hg, by have := lt_sortWorldK encW 5 w g 0 n d' os hlt; exact this, fun j v hv => ?_⟩
      have hj : j < d'.size * 5 := by
        have := (List.getElem?_eq_some_iff.1 hv).1
        rw [wts_len, List.length_map, Array.length_toList] at this
        exact this
      have h4 := (hH' j (by simpa using hj)).1
      have h5 := wts_flat d' j hj
      rw [hv] at h5
      injection h5 with h5
      rw [h5]
      exact h4
end Go.Proofs.Ytpndlggahdefcaa
