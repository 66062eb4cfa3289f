/-
  The walk of ModesHolds: it returns true at every input.
-/
import Derived.Test.YtcnbjpbohhfmoaaDoorK06
import Derived.Test.YtcnbjpbohhfmoaaDoorModes7
import Derived.Deep.DeepCutAuto
import Derived.IntWalk
namespace Go.Proofs.YtcnbjpbohhfmoaaDoor
open Go.RowKit
namespace ModesHolds
theorem wf_i64 {x : Int} (h : (Lit.int .i64 x).wf = true) : -9223372036854775808 ≤ x ∧ x ≤ 9223372036854775807 := by
  simp [Lit.wf, IntKind.min, IntKind.max, IntKind.signed, IntKind.bits] at h
  omega
theorem own_cap {w : World} {base n c : Nat} {e : TypeId} {size : Nat} {A : Option Addr} {xs : List Value} (h : w.ownsRow base e size (.slice A n c) n xs) : c ≤ 9223372036854775807 := by
  rcases h.2 with ⟨e, _⟩ | ⟨g, cap, cur, e, _, _, _, h2, _⟩
  · injection e with _ _ e; omega
  · injection e with _ _ e; unfold maxLen at h2; omega
theorem ints_app (xs ys : List Int) (k : Nat) : ints xs ++ (ints ys).take k = ints (xs ++ ys.take k) := by simp [ints, List.map_take]
theorem step_append_rdw {P : Program} {w : World} {ops : Array Oper} {o : Oper} {a : Act} {K : Act → World → Prop} {Q : Exit → Act → World → Prop} {E : Prop} (hw : Region.wanted o (yielded ops a.tmps) = true) (s x : Operand) (t : TypeId)
    (ho : o.op = .call { callee := .builtin .append, args := #[s, x], argTypes := #[t, t] })
    (base : Nat) (e : TypeId) (i : TypeInfo) (z : Value) (size bytes : Nat) (ht : P.underlying t = some (.slice e)) (hi : P.info? e = some i) (hz : i.zero = some z)
    (hsize : i.size = size) (hby : i.bytes = bytes) (hzs : z.cells.size = size) (hsz : 0 < size)
    (v : Value) (n : Nat) (xs : List Value) (hs : a.eval s = v) (hown : w.ownsRow base e size v n xs) {G : Nat → Prop} (A : Option Addr) (m c : Nat) (news : List Value) (hx : a.eval x = .slice A m c) (hr : Rd G w A news) (hA : A = none → c = 0)
    (hl : news.length = m * size) (h1 : ∀ u ∈ news, u.oneCell' = true) (h63 : n + m ≤ maxLen) (hbytes : (n + m) * bytes ≤ 140737488355328) (hbase : base ≤ w.heap.size)
    (h : ∀ v' w', w'.ownsRow base e size v' (n + m) (xs ++ news) → Ch (fun k => v.ownBlock = some k) w w' → (v'.ownBlock = v.ownBlock ∨ v'.ownBlock = some w.heap.size) → K (a.put o.dst v') w') :
    if Region.wanted o (yielded ops a.tmps) = true then Oper.wp P o a w K Q else E := by
  rw [if_pos hw]
  obtain ⟨v', w', hrun, h2, h3, h4⟩ := run_append_rd (P := P) w base t o.type e i z size bytes ht hi hz hsize hby hzs hsz v n xs hown A m c news hr hA hl h1 h63 hbytes hbase
  unfold Oper.wp
  simp [execOp, ho, resolve, invoke, builtin, hs, hx, hrun, Result.andThen]
  exact h v' w' h2 h3 h4
section
variable {P : Program} {ops : Array Oper} {Q : Exit → Act → World → Prop} {md : Region.Mode} {S : World → Prop}
theorem take_yes {i : Nat} {oi : Oper} {v : Value} {fuel : Nat} {listed : Array Bool} {a : Act} {w : World} (hi : ops.toList[i]? = some oi)
    (hs : Region.noSelect ops = true) (hf : Region.free md ops listed i = true) (hr : (Region.ready md ops listed).contains i = true)
    (hQ : ∀ c a w, Q (.panic c) (a.put oi.dst v) w → Q (.panic c) a w) (hw : Region.wanted oi (yielded ops a.tmps) = true) (hy : ∀ w, S w → (execOp a.eval oi).run P w = .ok (.value v) w) (hS : S w)
    (h : wpAnyH P md ops Q S fuel (listed.setIfInBounds i true) (a.put oi.dst v) w) : wpAnyH P md ops Q S (fuel + 1) listed a w :=
  wpAnyH_take (by rw [← hi, Array.getElem?_toList]) hs hf hr hQ (.inl ⟨hw, hy⟩) hS h
theorem take_no {i : Nat} {oi : Oper} {fuel : Nat} {listed : Array Bool} {a : Act} {w : World} (hi : ops.toList[i]? = some oi)
    (hs : Region.noSelect ops = true) (hf : Region.free md ops listed i = true) (hr : (Region.ready md ops listed).contains i = true)
    (hQ : ∀ c a w, Q (.panic c) (a.put oi.dst undef) w → Q (.panic c) a w) (hw : Region.wanted oi (yielded ops a.tmps) = false) (hS : S w)
    (h : wpAnyH P md ops Q S fuel (listed.setIfInBounds i true) (a.put oi.dst undef) w) : wpAnyH P md ops Q S (fuel + 1) listed a w :=
  wpAnyH_take (by rw [← hi, Array.getElem?_toList]) hs hf hr hQ (.inr ⟨hw, rfl⟩) hS h
theorem cons_l {fuel : Nat} {listed : Array Bool} {a : Act} {w : World} {i : Nat} {o : Oper} {rs : List Nat} (ho : ops.toList[i]? = some o)
    (h : ∀ K' : Act → World → Prop, Shut (∀ a w, S w → (S w → wpAnyH P md ops Q S fuel (listed.setIfInBounds i true) a w) → K' a w) → if Region.wanted o (yielded ops a.tmps) = true then Oper.wp P o a w K' Q else K' (a.put o.dst undef) w)
    (hs : AllReadyH P md ops Q S fuel listed a w rs) : AllReadyH P md ops Q S fuel listed a w (i :: rs) := AllReadyH.cons (by rw [← ho, Array.getElem?_toList]) h hs
end
theorem shared_succ (ys : List Int) (i : Nat) (h : i < ys.length) : shared ys (i + 1) = shared ys i + (if ys.getD i 0 = 1 then 1 else 0) := by
  unfold shared
  rw [take_snoc ys i h, List.countP_append]
  simp
set_option maxRecDepth 100000 in
set_option maxHeartbeats 4000000 in
theorem walk (A : Option Addr) (n c : Nat) (xs : List Int) (l : xs.length = n) (m : n ≤ c) (_b : c ≤ 9223372036854775807) (z : A = none → c = 0)
    (A2 : Option Addr) (n2 c2 : Nat) (xs2 : List Int) (l2 : xs2.length = n2) (m2 : n2 ≤ c2) (_b2 : c2 ≤ 9223372036854775807) (z2 : A2 = none → c2 = 0) (g : Int) (wg : (Lit.int .i64 g).wf = true)
    (w : World) (r : Rd (fun b => b < w.heap.size) w A (xs.map (Value.int .i64))) (_y : ∀ x ∈ xs, (Lit.int .i64 x).wf = true) (r2 : Rd (fun b => b < w.heap.size) w A2 (xs2.map (Value.int .i64))) (_y2 : ∀ x ∈ xs2, (Lit.int .i64 x).wf = true) (ht : Tab w) (ht2 : Tab2 w) :
    Calls Tryd.prog 8 #[.slice A n c, .slice A2 n2 c2, .int .i64 g] w fun e w' => e = .returned (.bool true) ∧ Below w.heap.size w w' := by
  have hg := wf_i64 wg
  have hr : Rd (fun b => b < w.heap.size) w A (ints xs) := r
  have hr2 : Rd (fun b => b < w.heap.size) w A2 (ints xs2) := r2
  have HL := Lib.hid l
  have HL2 := Lib.hid l2
  clear r r2 _y _y2 l l2 wg
  by_cases hb : 40 < n ∨ 40 < n2 ∨ g < 0 ∨ 4 < g
  · have d1 : decide (40 < (n : Int)) = decide (40 < n) := by rw [decide_eq_decide]; omega
    have d2 : decide (40 < (n2 : Int)) = decide (40 < n2) := by rw [decide_eq_decide]; omega
    have hrT : Rd (fun _ => True) w A (ints xs) := hr.mono (fun _ _ _ => trivial)
    have hall := fun W (hT : Tab W) hR (hc : xs.length ≤ c) hn => all_any A xs c W hT hR hc _b hn
    rw [HL.out] at hall
    go_enter Tryd.func8, Tryd.ntmps8
    go_wp2_with (first | (go_at_call 14; refine (known_ok _ (ht.below (by (repeat' (first | (with_reducible exact Below.refl _ _) | (with_reducible assumption) | (with_reducible refine Below.alloc ?_ ?_ _) | (with_reducible refine Below.drew ?_) | (with_reducible refine below_drewN ?_ _) | (with_reducible refine Below.setCell ?_ ?_ _) | (with_reducible refine Below.trans ?_ (Below.mono (by assumption) ?_)) | (first | go_size | (with_reducible exact Below.size (by assumption)) | (with_reducible exact Nat.le_trans (Below.size (by assumption)) (Below.size (by assumption))) | (refine Nat.le_trans (Below.size (by assumption)) ?_; go_size)))))) (ht2.below (by (repeat' (first | (with_reducible exact Below.refl _ _) | (with_reducible assumption) | (with_reducible refine Below.alloc ?_ ?_ _) | (with_reducible refine Below.drew ?_) | (with_reducible refine below_drewN ?_ _) | (with_reducible refine Below.setCell ?_ ?_ _) | (with_reducible refine Below.trans ?_ (Below.mono (by assumption) ?_)) | (first | go_size | (with_reducible exact Below.size (by assumption)) | (with_reducible exact Nat.le_trans (Below.size (by assumption)) (Below.size (by assumption))) | (refine Nat.le_trans (Below.size (by assumption)) ?_; go_size))))))).mono ?_; rintro e w' ⟨rfl, hg⟩))
    all_goals first
      | (go_ret; exact ⟨rfl, by (repeat' (first | (with_reducible exact Below.refl _ _) | (with_reducible assumption) | (with_reducible refine Below.alloc ?_ ?_ _) | (with_reducible refine Below.drew ?_) | (with_reducible refine below_drewN ?_ _) | (with_reducible refine Below.setCell ?_ ?_ _) | (with_reducible refine Below.trans ?_ (Below.mono (by assumption) ?_)) | (first | go_size | (with_reducible exact Below.size (by assumption)) | (with_reducible exact Nat.le_trans (Below.size (by assumption)) (Below.size (by assumption))) | (refine Nat.le_trans (Below.size (by assumption)) ?_; go_size))))⟩)
      | (exfalso; omega)
  have h1 : n ≤ 40 := by omega
  have h2 : n2 ≤ 40 := by omega
  have g1 : 0 ≤ g := by omega
  have g2 : g ≤ 4 := by omega
  have d1 : decide (40 < (n : Int)) = false := decide_eq_false (by omega)
  have d2 : decide (40 < (n2 : Int)) = false := decide_eq_false (by omega)
  have d3 : decide (g < 0) = false := decide_eq_false (by omega)
  have d4 : decide (4 < g) = false := decide_eq_false (by omega)
  clear hb
  have hrT : Rd (fun _ => True) w A (ints xs) := hr.mono (fun _ _ _ => trivial)
  obtain ⟨av, hav⟩ : ∃ v, aB xs = v := ⟨_, rfl⟩
  have hall := fun W (hT : Tab W) hR => all_any A xs c W hT hR (by rw [HL.out]; exact m) _b (by rw [HL.out]; omega)
  rw [hav, HL.out] at hall
  cases av
  · have HAV := Lib.hid hav
    clear hav
    go_enter Tryd.func8, Tryd.ntmps8
    go_wp2_with (first | (go_at_call 14; refine (known_ok _ (ht.below (by (repeat' (first | (with_reducible exact Below.refl _ _) | (with_reducible assumption) | (with_reducible refine Below.alloc ?_ ?_ _) | (with_reducible refine Below.drew ?_) | (with_reducible refine below_drewN ?_ _) | (with_reducible refine Below.setCell ?_ ?_ _) | (with_reducible refine Below.trans ?_ (Below.mono (by assumption) ?_)) | (first | go_size | (with_reducible exact Below.size (by assumption)) | (with_reducible exact Nat.le_trans (Below.size (by assumption)) (Below.size (by assumption))) | (refine Nat.le_trans (Below.size (by assumption)) ?_; go_size)))))) (ht2.below (by (repeat' (first | (with_reducible exact Below.refl _ _) | (with_reducible assumption) | (with_reducible refine Below.alloc ?_ ?_ _) | (with_reducible refine Below.drew ?_) | (with_reducible refine below_drewN ?_ _) | (with_reducible refine Below.setCell ?_ ?_ _) | (with_reducible refine Below.trans ?_ (Below.mono (by assumption) ?_)) | (first | go_size | (with_reducible exact Below.size (by assumption)) | (with_reducible exact Nat.le_trans (Below.size (by assumption)) (Below.size (by assumption))) | (refine Nat.le_trans (Below.size (by assumption)) ?_; go_size))))))).mono ?_; rintro e w' ⟨rfl, hg⟩) | (go_at_call 17; refine (hall _ ht hrT).mono ?_; rintro e w1 ⟨rfl, hB1⟩))
    go_ret
    exact ⟨rfl, by (repeat' (first | (with_reducible exact Below.refl _ _) | (with_reducible assumption) | (with_reducible refine Below.alloc ?_ ?_ _) | (with_reducible refine Below.drew ?_) | (with_reducible refine below_drewN ?_ _) | (with_reducible refine Below.setCell ?_ ?_ _) | (with_reducible refine Below.trans ?_ (Below.mono (by assumption) ?_)) | (first | go_size | (with_reducible exact Below.size (by assumption)) | (with_reducible exact Nat.le_trans (Below.size (by assumption)) (Below.size (by assumption))) | (refine Nat.le_trans (Below.size (by assumption)) ?_; go_size))))⟩
  obtain ⟨k, hk⟩ : ∃ k, grants xs xs2 g = k := ⟨_, rfl⟩
  have hkl : k ≤ n2 := by have := grants_le xs2 xs g; rw [hk, HL2.out] at this; exact this
  have hgr := fun W (hT : Tab W) hR hR2 => grants_any A A2 xs xs2 n c n2 c2 g W hT hR z HL.out (by omega) hR2 HL2.out (by omega) hg.1 hg.2
  rw [hk] at hgr
  have HK := Lib.hid hk
  have HAV := Lib.hid hav
  have hrT2 : Rd (fun _ => True) w A2 (ints xs2) := hr2.mono (fun _ _ _ => trivial)
  clear hk hav
  have i1 : (0 : Int) ≤ k := Int.natCast_nonneg _
  have i2 : (k : Int) ≤ n2 := by omega
  have i3 : (k : Int) ≤ c2 := by omega
  have i4 : ¬ ((k : Int) < 0) := by omega
  have i5 : ¬ ((n2 : Int) < k) := by omega
  obtain ⟨i0, hi0, hz0, hz1, hz2⟩ := info_parts modeInfo
  go_enter Tryd.func8, Tryd.ntmps8
  go_wp2_with fail
  refine (hall _ ht hrT).mono ?_
  rintro e w1 ⟨rfl, hB1⟩
  go_wp2_with fail
  refine (hgr _ (ht.below (by (repeat' (first | (with_reducible exact Below.refl _ _) | (with_reducible assumption) | (with_reducible refine Below.alloc ?_ ?_ _) | (with_reducible refine Below.drew ?_) | (with_reducible refine below_drewN ?_ _) | (with_reducible refine Below.setCell ?_ ?_ _) | (with_reducible refine Below.trans ?_ (Below.mono (by assumption) ?_)) | (first | go_size | (with_reducible exact Below.size (by assumption)) | (with_reducible exact Nat.le_trans (Below.size (by assumption)) (Below.size (by assumption))) | (refine Nat.le_trans (Below.size (by assumption)) ?_; go_size)))))) (hrT.keep (Ch.of_below hB1 (fun _ => False)) (fun _ _ _ e => e)) (hrT2.keep (Ch.of_below hB1 (fun _ => False)) (fun _ _ _ e => e))).mono ?_
  rintro e w2 ⟨rfl, hB2⟩
  have hB : Below w.heap.size w w2 := hB1.trans (hB2.mono hB1.size)
  have hra := hr.keep (Ch.of_below hB (fun _ => False)) (fun _ _ _ e => e)
  have hrb := hr2.keep (Ch.of_below hB (fun _ => False)) (fun _ _ _ e => e)
  have hz := hB.size
  clear hB1 hB2 hall hgr
  have q0 : 0 < 1 := by omega
  have q1 : (ints xs).length = n * 1 := by simp [ints]; exact HL.out
  have q2 : ∀ u ∈ ints xs, u.oneCell' = true := oneCell_ints _ _
  have q3 : 0 + n ≤ maxLen := by unfold maxLen; omega
  have q4 : (0 + n) * 8 ≤ 140737488355328 := by omega
  have p1 : ((ints xs2).take k).length = k * 1 := by simp [ints]; rw [HL2.out]; omega
  have p2 : ∀ u ∈ (ints xs2).take k, u.oneCell' = true := fun u hu => oneCell_ints _ _ u (List.mem_of_mem_take hu)
  have p3 : 0 + n + k ≤ maxLen := by unfold maxLen; omega
  have p4 : (0 + n + k) * 8 ≤ 140737488355328 := by omega
  go_upto_region 6 with fail
  go_cut [8] (fun s8 wx => ∃ A8 c8, s8 = .slice A8 (n + k) c8 ∧ Rd (fun b => w2.heap.size ≤ b) wx A8 (ints (xs ++ xs2.take k)) ∧ n + k ≤ c8 ∧ c8 ≤ 9223372036854775807 ∧ (A8 = none → c8 = 0) ∧ Below w2.heap.size w2 wx)
  case first =>
    go_region_law (first
      | ((refine step_append_rd rfl (.const (.slice none 0 0)) (.tmp 46) 30 rfl w2.heap.size 22 i0 _ 1 8 Tryd.underlying30 hi0 hz0 hz1 hz2 rfl q0 (.slice none 0 0) 0 [] rfl (own_none _ _ _ _) (G := fun b => b < w.heap.size) A n c (ints xs) rfl ?_ z q1 q2 q3 q4 ?_ ?_); (focus ((repeat' (first | (with_reducible exact (hra)) | (with_reducible refine Rd.keep ?_ ((Ch.refl (fun _ => False) _).drew) (fun _ _ _ e => e)) | ((with_reducible refine Rd.keep ?_ hcha (fun k _ hk e => ?_)); rotate_left; (focus (simp [Value.ownBlock] at e))))))); (focus ((first | omega | ((repeat (first | rw [World.size_alloc] | rw [World.size_drew])); omega)))); intro va wa howna hcha hata; have sza := hcha.size; (repeat (first | rw [World.size_alloc] at sza | rw [World.size_drew] at sza)))
      | ((refine step_append_rd rfl (.tmp 47) (.tmp 50) 30 rfl w2.heap.size 22 i0 _ 1 8 Tryd.underlying30 hi0 hz0 hz1 hz2 rfl q0 va (0 + n) ([] ++ ints xs) rfl howna (G := fun b => b < w.heap.size) A2 k c2 ((ints xs2).take k) rfl ?_ z2 p1 p2 p3 p4 ?_ ?_); (focus ((repeat' (first | (with_reducible exact (hrb.take k)) | (with_reducible refine Rd.keep ?_ ((Ch.refl (fun _ => False) _).drew) (fun _ _ _ e => e)) | ((with_reducible refine Rd.keep ?_ hcha (fun k _ hk e => ?_)); rotate_left; (focus (simp [Value.ownBlock] at e))))))); (focus ((first | omega | ((repeat (first | rw [World.size_alloc] | rw [World.size_drew])); omega)))); intro vb wb hownb hchb hatb; have szb := hchb.size; (repeat (first | rw [World.size_alloc] at szb | rw [World.size_drew] at szb))))
    all_goals
      go_wp2_with fail
      go_meet
      simp only [Nat.zero_add, List.nil_append, ints_app] at hownb
      have hBa : Below w2.heap.size w2 wa := Below.trans (show Below w2.heap.size w2 w2.drew by (repeat' (first | (with_reducible exact Below.refl _ _) | (with_reducible assumption) | (with_reducible refine Below.alloc ?_ ?_ _) | (with_reducible refine Below.drew ?_) | (with_reducible refine below_drewN ?_ _) | (with_reducible refine Below.setCell ?_ ?_ _) | (with_reducible refine Below.trans ?_ (Below.mono (by assumption) ?_)) | (first | go_size | (with_reducible exact Below.size (by assumption)) | (with_reducible exact Nat.le_trans (Below.size (by assumption)) (Below.size (by assumption))) | (refine Nat.le_trans (Below.size (by assumption)) ?_; go_size))))) (hcha.below (fun j _ e => by cases e) (Nat.le_refl _))
      have hBb := hBa.trans (hchb.below (fun j _ e => ownBlock_ge howna e) sza)
      obtain ⟨A8, c8, rfl, k8, z8⟩ := own_slice hownb
      exact ⟨A8, c8, rfl, (Rd.of_own hownb).mono (fun _ _ h => h.1), k8, own_cap hownb, z8, hBb⟩
  case rest =>
    obtain ⟨A8, c8, rfl, hr8, k8, b8, z8, hB8⟩ := hcut
    have hra8 := hra.keep (Ch.of_below hB8 (fun _ => False)) (fun _ _ _ e => e)
    have hrb8 := hrb.keep (Ch.of_below hB8 (fun _ => False)) (fun _ _ _ e => e)
    have hBc := hB.trans (hB8.mono hz)
    have hl8 : (xs ++ xs2.take k).length = n + k := by rw [List.length_append, List.length_take, HL.out, HL2.out]; omega
    have hal : aB (xs ++ xs2.take k) = true := by have := grants_all xs2 xs g HAV.out; rwa [HK.out] at this
    have hall := all_any A8 (xs ++ xs2.take k) c8 wc (ht.below hBc) (hr8.mono (fun _ _ _ => trivial)) (by rw [hl8]; exact k8) b8 (by rw [hl8]; omega)
    rw [hal, hl8] at hall
    have HL8 := Lib.hid hl8
    clear hl8 hal q1 q2 q3 q4 p1 p2 p3 p4 hra hrb hB8
    go_wp2_with fail
    refine hall.mono ?_
    rintro e w4 ⟨rfl, hB4⟩
    have hr4 := hr8.keep (Ch.of_below hB4 (fun _ => False)) (fun _ _ _ e => e)
    have hrb4 := hrb8.keep (Ch.of_below hB4 (fun _ => False)) (fun _ _ _ e => e)
    have hB44 := hBc.trans (hB4.mono hBc.size)
    clear hall hr8 hrb8 hra8 hB4 hB hBc
    go_wp2_with fail
    go_loopg [9, 59] k (fun gk v9 v59 wr => ∃ i : Nat, gk = k - i ∧ v9 = .int .i64 (shared xs2 i : Int) ∧ v59 = .int .i64 i ∧ i ≤ k ∧ wr = w4)
    case atStart => exact ⟨0, rfl, by simp [shared], rfl, Nat.zero_le _, rfl⟩
    case round =>
      obtain ⟨i, rfl, rfl, rfl, hi, rfl⟩ := hrel
      by_cases hlt : i < k
      · obtain ⟨bA, oA, eA, _, hca⟩ := hrb4.at (j := i) (by simp [ints]; rw [HL2.out]; omega)
        have hss := shared_succ xs2 i (by rw [HL2.out]; omega)
        have hgx : xs2.getD i 0 = xs2[i]'(by rw [HL2.out]; omega) := by simp [List.getD, List.getElem?_eq_getElem (show i < xs2.length by rw [HL2.out]; omega)]
        rw [hgx] at hss
        simp only [ints, List.getElem_map] at hca
        generalize xs2[i]'(by rw [HL2.out]; omega) = X at hca hss
        have hsl : shared xs2 i ≤ i := by unfold shared; exact Nat.le_trans List.countP_le_length (List.length_take_le _ _)
        subst eA
        have HSS := Lib.hid hss
        generalize hS : shared xs2 i = S at hsl HSS
        have i6 : (0 : Int) ≤ i := Int.natCast_nonneg _
        have i7 : (i : Int) < (k : Int) := by omega
        clear hss hgx hS
        by_cases hX : X = 1
        · have e1 : (X == 1) = true := by rw [beq_iff_eq]; exact hX
          have HX := Lib.hid hX
          clear hX
          go_wp2_with fail
          go_roundg (k - (i + 1))
          case measure => omega
          case rel => exact ⟨i + 1, rfl, by rw [HSS.out, if_pos HX.out]; go_num, by go_num, by omega, rfl⟩
        · have e1 : (X == 1) = false := by rw [beq_eq_false_iff_ne]; exact hX
          have HX := Lib.hid hX
          clear hX
          go_wp2_with fail
          go_roundg (k - (i + 1))
          case measure => omega
          case rel => exact ⟨i + 1, rfl, by rw [HSS.out, if_neg HX.out]; rfl, by go_num, by omega, rfl⟩
      · obtain rfl : k = i := by omega
        have hsl : shared xs2 k ≤ k := by unfold shared; exact Nat.le_trans List.countP_le_length (List.length_take_le _ _)
        by_cases hkn : k < n2
        · have hst := grants_stop xs2 xs g g1 g2 (by rw [HK.out, HL2.out]; exact hkn)
          rw [HK.out] at hst
          obtain ⟨hst1, hst2⟩ := hst
          have hgx : xs2.getD k 0 = xs2[k]'(by rw [HL2.out]; exact hkn) := by simp [List.getD, List.getElem?_eq_getElem (show k < xs2.length by rw [HL2.out]; exact hkn)]
          rw [hgx] at hst2
          obtain ⟨bA, oA, eA, hbA, hca⟩ := hrb4.at (j := k) (by simp [ints]; rw [HL2.out]; exact hkn)
          have hzw := hB44.size
          simp only [ints, List.getElem_map] at hca
          generalize xs2[k]'(by rw [HL2.out]; exact hkn) = X at hca hst2 hgx
          have hfin : aB (xs ++ xs2.take k ++ [X]) = true → X = 1 ∧ 4 ≤ g + (shared xs2 k : Int) := fun h => by
            rw [aB_snoc] at h
            unfold gB at hst2
            simp only [Bool.and_eq_true] at h
            rw [h.2.1, h.2.2] at hst2
            simp at hst2
            exact ⟨hst2.1.1, by omega⟩
          obtain ⟨V, hV⟩ : ∃ V, aB (xs ++ xs2.take k ++ [X]) = V := ⟨_, rfl⟩
          rw [hV] at hfin
          have HV := Lib.hid hV
          have HFIN := Lib.hid hfin
          have HGX := Lib.hid hgx
          have HST := Lib.hid hst1
          generalize hS : shared xs2 k = S at hsl HST HFIN
          have HS := Lib.hid hS
          have i6 : (k : Int) < n2 := by omega
          have i7 : (k : Int) < c2 := by omega
          have i8 : (0 : Int) ≤ S := Int.natCast_nonneg _
          have i9 : (S : Int) ≤ 40 := by omega
          clear hst1 hst2 hgx hfin hV hS
          subst eA
          go_upto_region 17 with fail
          go_cut [103] (fun s103 wx => s103 = .bool false ∧ Below wr.heap.size wr wx)
          case first =>
            have hT : ¬ (4 < g + (S : Int)) := by have := HST.out; omega
            have t1 : decide (4 < g + (S : Int)) = false := decide_eq_false hT
            have sw : IntKind.i64.wrap (g + (S : Int)) = g + S := IntWalk.i64_in _ (by omega)
            have q0 : 0 < 1 := by omega
            have q1 : (ints (xs ++ xs2.take k)).length = (n + k) * 1 := by simp only [ints, List.length_map]; rw [HL8.out]; omega
            have q2 : ∀ u ∈ ints (xs ++ xs2.take k), u.oneCell' = true := oneCell_ints _ _
            have q3 : 0 + (n + k) ≤ maxLen := by unfold maxLen; omega
            have q4 : (0 + (n + k)) * 8 ≤ 140737488355328 := by omega
            have p1 : [Value.int .i64 X].length = 1 * 1 := rfl
            have p2 : ∀ u ∈ [Value.int .i64 X], u.oneCell' = true := by simp [Value.oneCell']
            have p3 : 0 + (n + k) + 1 ≤ maxLen := by unfold maxLen; omega
            have p4 : (0 + (n + k) + 1) * 8 ≤ 140737488355328 := by omega
            have p5 : ∀ b : Addr, some b = none → 1 = 0 := fun _ h => by cases h
            have hly : (xs ++ xs2.take k ++ [X]).length = 0 + (n + k) + 1 := by rw [List.length_append, HL8.out]; simp
            have hly2 : ints (xs ++ xs2.take k) ++ [Value.int .i64 X] = ints (xs ++ xs2.take k ++ [X]) := by simp [ints]
            have hallx := fun W hT A' c' hR h1' h2' => all_any A' (xs ++ xs2.take k ++ [X]) c' W hT hR h1' h2' (by rw [hly]; omega)
            rw [HV.out, hly] at hallx
            have HLY2 := Lib.hid hly2
            clear hly hly2
            cases V
            · clear hT
              refine wp_region_held_drew (S := fun w' => w'.cell? ⟨bA, oA + k, none⟩ = some (.int .i64 X) ∧ Below wr.heap.size wr w') (by kernel_rfl) ?hsFalse (fun hHeld => ?hrFalse)
              case hsFalse => exact ⟨by go_cell, (Below.refl _ _).drew⟩
              case hrFalse =>
                obtain ⟨hHc, hHB⟩ := hHeld
                refine take_yes (i := 0) (v := ?v1) rfl (by kernel_rfl) (by kernel_rfl) (by kernel_rfl) (fun _ _ _ h => h) (by rfl) ?y1 ⟨hHc, hHB⟩ ?r1
                case y1 => (intro w hSw; obtain ⟨hSw, _⟩ := hSw; go_simp; (try with_reducible rfl))
                case r1 =>
                  simp only [Act.put, List.setIfInBounds_toArray, List.set_cons_zero, List.set_cons_succ]
                  refine take_yes (i := 1) (v := ?v2) rfl (by kernel_rfl) (by kernel_rfl) (by kernel_rfl) (fun _ _ _ h => h) (by rfl) ?y2 ⟨hHc, hHB⟩ ?r2
                  case y2 => (intro w hSw; obtain ⟨hSw, _⟩ := hSw; go_simp; (try with_reducible rfl))
                  case r2 =>
                    simp only [Act.put, List.setIfInBounds_toArray, List.set_cons_zero, List.set_cons_succ]
                    refine take_yes (i := 2) (v := ?v3) rfl (by kernel_rfl) (by kernel_rfl) (by kernel_rfl) (fun _ _ _ h => h) (by rfl) ?y3 ⟨hHc, hHB⟩ ?r3
                    case y3 => (intro w hSw; obtain ⟨hSw, _⟩ := hSw; go_simp; (try with_reducible rfl))
                    case r3 =>
                      simp only [Act.put, List.setIfInBounds_toArray, List.set_cons_zero, List.set_cons_succ]
                      refine take_yes (i := 3) (v := ?v4) rfl (by kernel_rfl) (by kernel_rfl) (by kernel_rfl) (fun _ _ _ h => h) (by rfl) ?y4 ⟨hHc, hHB⟩ ?r4
                      case y4 => (intro w hSw; obtain ⟨hSw, _⟩ := hSw; go_simp; (try with_reducible rfl))
                      case r4 =>
                        simp only [Act.put, List.setIfInBounds_toArray, List.set_cons_zero, List.set_cons_succ]
                        refine take_yes (i := 4) (v := ?v5) rfl (by kernel_rfl) (by kernel_rfl) (by kernel_rfl) (fun _ _ _ h => h) (by rfl) ?y5 ⟨hHc, hHB⟩ ?r5
                        case y5 => (intro w hSw; obtain ⟨hSw, _⟩ := hSw; go_simp; (try with_reducible rfl))
                        case r5 =>
                          simp only [Act.put, List.setIfInBounds_toArray, List.set_cons_zero, List.set_cons_succ]
                          refine take_no (i := 5) rfl (by kernel_rfl) (by kernel_rfl) (by kernel_rfl) (fun _ _ _ h => h) (by rfl) ⟨hHc, hHB⟩ ?r6
                          case r6 =>
                            simp only [Act.put, List.setIfInBounds_toArray, List.set_cons_zero, List.set_cons_succ]
                            refine take_no (i := 6) rfl (by kernel_rfl) (by kernel_rfl) (by kernel_rfl) (fun _ _ _ h => h) (by rfl) ⟨hHc, hHB⟩ ?r7
                            case r7 =>
                              simp only [Act.put, List.setIfInBounds_toArray, List.set_cons_zero, List.set_cons_succ]
                              refine take_yes (i := 7) (v := ?v8) rfl (by kernel_rfl) (by kernel_rfl) (by kernel_rfl) (fun _ _ _ h => h) (by rfl) ?y8 ⟨hHc, hHB⟩ ?r8
                              case y8 => (intro w hSw; obtain ⟨hSw, _⟩ := hSw; go_simp; (try with_reducible rfl))
                              case r8 =>
                                simp only [Act.put, List.setIfInBounds_toArray, List.set_cons_zero, List.set_cons_succ]
                                refine take_yes (i := 8) (v := ?v9) rfl (by kernel_rfl) (by kernel_rfl) (by kernel_rfl) (fun _ _ _ h => h) (by rfl) ?y9 ⟨hHc, hHB⟩ ?r9
                                case y9 => (intro w hSw; obtain ⟨hSw, _⟩ := hSw; go_simp; (try with_reducible rfl))
                                case r9 =>
                                  simp only [Act.put, List.setIfInBounds_toArray, List.set_cons_zero, List.set_cons_succ]
                                  refine take_yes (i := 9) (v := ?v10) rfl (by kernel_rfl) (by kernel_rfl) (by kernel_rfl) (fun _ _ _ h => h) (by rfl) ?y10 ⟨hHc, hHB⟩ ?r10
                                  case y10 => (intro w hSw; obtain ⟨hSw, _⟩ := hSw; go_simp; (try with_reducible rfl))
                                  case r10 =>
                                    simp only [Act.put, List.setIfInBounds_toArray, List.set_cons_zero, List.set_cons_succ]
                                    refine take_yes (i := 11) (v := ?v11) rfl (by kernel_rfl) (by kernel_rfl) (by kernel_rfl) (fun _ _ _ h => h) (by rfl) ?y11 ⟨hHc, hHB⟩ ?r11
                                    case y11 => (intro w hSw; obtain ⟨hSw, _⟩ := hSw; go_simp; (try with_reducible rfl))
                                    case r11 =>
                                      simp only [Act.put, List.setIfInBounds_toArray, List.set_cons_zero, List.set_cons_succ]
                                      refine take_yes (i := 12) (v := ?v12) rfl (by kernel_rfl) (by kernel_rfl) (by kernel_rfl) (fun _ _ _ h => h) (by rfl) ?y12 ⟨hHc, hHB⟩ ?r12
                                      case y12 => (intro w hSw; obtain ⟨hSw, _⟩ := hSw; go_simp; (try with_reducible rfl))
                                      case r12 =>
                                        simp only [Act.put, List.setIfInBounds_toArray, List.set_cons_zero, List.set_cons_succ]
                                        refine take_yes (i := 13) (v := ?v13) rfl (by kernel_rfl) (by kernel_rfl) (by kernel_rfl) (fun _ _ _ h => h) (by rfl) ?y13 ⟨hHc, hHB⟩ ?r13
                                        case y13 => (intro w hSw; obtain ⟨hSw, _⟩ := hSw; go_simp; (try with_reducible rfl))
                                        case r13 =>
                                          simp only [Act.put, List.setIfInBounds_toArray, List.set_cons_zero, List.set_cons_succ]
                                          refine take_yes (i := 14) (v := ?v14) rfl (by kernel_rfl) (by kernel_rfl) (by kernel_rfl) (fun _ _ _ h => h) (by rfl) ?y14 ⟨hHc, hHB⟩ ?r14
                                          case y14 => (intro w hSw; obtain ⟨hSw, _⟩ := hSw; go_simp; (try with_reducible rfl))
                                          case r14 =>
                                            simp only [Act.put, List.setIfInBounds_toArray, List.set_cons_zero, List.set_cons_succ]
                                            refine wpAnyH_ready (rs := [10, 15]) (by kernel_rfl) (by simp) ?b15
                                            case b15 =>
                                              refine cons_l rfl (fun K hK => ?s16) ?m16
                                              case s16 =>
                                                ((refine step_append_rdw ?_ (.const (.slice none 0 0)) (.tmp 81) 30 rfl wr.heap.size 22 i0 _ 1 8 Tryd.underlying30 hi0 hz0 hz1 hz2 rfl q0 (.slice none 0 0) 0 [] rfl (own_none _ _ _ _) (G := fun b => w2.heap.size ≤ b) A8 (n + k) c8 (ints (xs ++ xs2.take k)) rfl ?_ z8 q1 q2 q3 q4 ?_ ?_); (focus ((first | rfl | (simp [Region.wanted, yielded]; done)))); (focus ((repeat' (first | (with_reducible exact (hr4)) | (exact Rd.of_blk (Blk.new _ _ [.int .i64 X]) (List.prefix_refl _) trivial) | (with_reducible refine Rd.keep ?_ ((Ch.refl (fun _ => False) _).drew) (fun _ _ _ e => e)) | (with_reducible refine Rd.keep ?_ ((Ch.refl (fun _ => False) _).alloc _) (fun _ _ _ e => e)) | ((with_reducible refine Rd.keep ?_ hcha (fun k _ hk e => ?_)); rotate_left; (focus (simp [Value.ownBlock] at e))))))); (focus ((first | omega | ((repeat (first | rw [World.size_alloc] | rw [World.size_drew])); omega)))); intro va wa howna hcha hata; have sza := hcha.size; (repeat (first | rw [World.size_alloc] at sza | rw [World.size_drew] at sza)); have kxa := hcha.keeps (p := ⟨bA, oA + k, none⟩) (v := .int .i64 X) hHc (by simp [Value.ownBlock]); have kya := hHB.trans (hcha.below (fun j _ e => by simp [Value.ownBlock] at e) hHB.size))
                                                refine hK.out _ _ ⟨kxa, kya⟩ (fun hHeld => ?n16)
                                                case n16 =>
                                                  clear hK K hHc hHB
                                                  obtain ⟨hHc, hHB⟩ := hHeld
                                                  try simp only [Act.put, List.setIfInBounds_toArray, List.set_cons_zero, List.set_cons_succ]
                                                  refine wpAnyH_ready (rs := [15]) (by kernel_rfl) (by simp) ?b17
                                                  case b17 =>
                                                    refine cons_l rfl (fun K hK => ?s18) ?m18
                                                    case s18 =>
                                                      go_simp
                                                      refine hK.out _ _ ⟨((Ch.refl (fun _ => False) _).alloc _).keeps hHc (fun e => e), hHB.alloc hHB.size _⟩ (fun hHeld => ?n18)
                                                      case n18 =>
                                                        clear hK K hHc hHB
                                                        obtain ⟨hHc, hHB⟩ := hHeld
                                                        try simp only [Act.put, List.setIfInBounds_toArray, List.set_cons_zero, List.set_cons_succ]
                                                        refine wpAnyH_ready (rs := [16]) (by kernel_rfl) (by simp) ?b19
                                                        case b19 =>
                                                          refine cons_l rfl (fun K hK => ?s20) ?m20
                                                          case s20 =>
                                                            ((refine step_append_rdw ?_ (.tmp 82) (.tmp 87) 30 rfl wr.heap.size 22 i0 _ 1 8 Tryd.underlying30 hi0 hz0 hz1 hz2 rfl q0 va (0 + (n + k)) ([] ++ ints (xs ++ xs2.take k)) rfl ?_ (G := fun _ => True) (some ⟨_, 0, none⟩) 1 1 [.int .i64 X] rfl ?_ (p5 _) p1 p2 p3 p4 ?_ ?_); (focus ((first | rfl | (simp [Region.wanted, yielded]; done)))); (focus ((repeat' (first | (with_reducible exact howna) | (with_reducible refine own_keep ?_ ((Ch.refl (fun _ => False) _).drew) (fun _ _ _ e => e)) | (with_reducible refine own_keep ?_ ((Ch.refl (fun _ => False) _).alloc _) (fun _ _ _ e => e)))))); (focus ((repeat' (first | (with_reducible exact (hr4)) | (exact Rd.of_blk (Blk.new _ _ [.int .i64 X]) (List.prefix_refl _) trivial) | (with_reducible refine Rd.keep ?_ ((Ch.refl (fun _ => False) _).drew) (fun _ _ _ e => e)) | (with_reducible refine Rd.keep ?_ ((Ch.refl (fun _ => False) _).alloc _) (fun _ _ _ e => e)) | ((with_reducible refine Rd.keep ?_ hcha (fun k _ hk e => ?_)); rotate_left; (focus (simp [Value.ownBlock] at e))))))); (focus ((first | omega | ((repeat (first | rw [World.size_alloc] | rw [World.size_drew])); omega)))); intro vb wb hownb hchb hatb; have szb := hchb.size; (repeat (first | rw [World.size_alloc] at szb | rw [World.size_drew] at szb)); have kxb := hchb.keeps (p := ⟨bA, oA + k, none⟩) (v := .int .i64 X) hHc (fun e => by rcases hata with h | h <;> rw [h] at e <;> first | (cases e; done) | (injection e with e; (try simp at e); omega)); have kyb := hHB.trans (hchb.below (fun j _ e => ownBlock_ge howna e) hHB.size))
                                                            refine hK.out _ _ ⟨kxb, kyb⟩ (fun hHeld => ?n20)
                                                            case n20 =>
                                                              clear hK K hHc hHB
                                                              obtain ⟨hHc, hHB⟩ := hHeld
                                                              try simp only [Act.put, List.setIfInBounds_toArray, List.set_cons_zero, List.set_cons_succ]
                                                              refine wpAnyH_ready (rs := [17]) (by kernel_rfl) (by simp) ?b21
                                                              case b21 =>
                                                                refine cons_l rfl (fun K hK => ?s22) ?m22
                                                                case s22 =>
                                                                  (go_simp; go_at_call 17; (have hob := hownb; rw [List.nil_append, HLY2.out] at hob; obtain ⟨Ab, cb, eb, kb, zb⟩ := own_slice hob; subst eb; (refine (hallx _ ?_ Ab cb ?_ ?_ ?_).mono ?_); (focus (exact ht.below (hB44.trans (hHB.mono hB44.size)))); (focus (exact (Rd.of_own hob).mono (fun _ _ _ => trivial))); (focus (omega)); (focus (exact own_cap hob)); rintro e w5 ⟨rfl, hB5⟩; have kxc := (Ch.of_below hB5 (fun _ => False)).keeps (p := ⟨bA, oA + k, none⟩) (v := .int .i64 X) hHc (fun e => e)); have kyc := hHB.trans (hB5.mono hHB.size))
                                                                  go_wp2_with fail
                                                                  refine hK.out _ _ ⟨kxc, kyc⟩ (fun hHeld => ?n22)
                                                                  case n22 =>
                                                                    clear hK K hHc hHB
                                                                    obtain ⟨hHc, hHB⟩ := hHeld
                                                                    try simp only [Act.put, List.setIfInBounds_toArray, List.set_cons_zero, List.set_cons_succ]
                                                                    refine take_yes (i := 18) (v := ?v23) rfl (by kernel_rfl) (by kernel_rfl) (by kernel_rfl) (fun _ _ _ h => h) (by rfl) ?y23 ⟨hHc, hHB⟩ ?r23
                                                                    case y23 => (intro w hSw; obtain ⟨hSw, _⟩ := hSw; go_simp; (try with_reducible rfl))
                                                                    case r23 =>
                                                                      simp only [Act.put, List.setIfInBounds_toArray, List.set_cons_zero, List.set_cons_succ]
                                                                      refine take_no (i := 19) rfl (by kernel_rfl) (by kernel_rfl) (by kernel_rfl) (fun _ _ _ h => h) (by rfl) ⟨hHc, hHB⟩ ?r24
                                                                      case r24 =>
                                                                        simp only [Act.put, List.setIfInBounds_toArray, List.set_cons_zero, List.set_cons_succ]
                                                                        refine take_no (i := 20) rfl (by kernel_rfl) (by kernel_rfl) (by kernel_rfl) (fun _ _ _ h => h) (by rfl) ⟨hHc, hHB⟩ ?r25
                                                                        case r25 =>
                                                                          simp only [Act.put, List.setIfInBounds_toArray, List.set_cons_zero, List.set_cons_succ]
                                                                          refine take_no (i := 21) rfl (by kernel_rfl) (by kernel_rfl) (by kernel_rfl) (fun _ _ _ h => h) (by rfl) ⟨hHc, hHB⟩ ?r26
                                                                          case r26 =>
                                                                            simp only [Act.put, List.setIfInBounds_toArray, List.set_cons_zero, List.set_cons_succ]
                                                                            refine take_no (i := 22) rfl (by kernel_rfl) (by kernel_rfl) (by kernel_rfl) (fun _ _ _ h => h) (by rfl) ⟨hHc, hHB⟩ ?r27
                                                                            case r27 =>
                                                                              simp only [Act.put, List.setIfInBounds_toArray, List.set_cons_zero, List.set_cons_succ]
                                                                              refine take_no (i := 23) rfl (by kernel_rfl) (by kernel_rfl) (by kernel_rfl) (fun _ _ _ h => h) (by rfl) ⟨hHc, hHB⟩ ?r28
                                                                              case r28 =>
                                                                                simp only [Act.put, List.setIfInBounds_toArray, List.set_cons_zero, List.set_cons_succ]
                                                                                refine take_no (i := 24) rfl (by kernel_rfl) (by kernel_rfl) (by kernel_rfl) (fun _ _ _ h => h) (by rfl) ⟨hHc, hHB⟩ ?r29
                                                                                case r29 =>
                                                                                  simp only [Act.put, List.setIfInBounds_toArray, List.set_cons_zero, List.set_cons_succ]
                                                                                  refine take_no (i := 25) rfl (by kernel_rfl) (by kernel_rfl) (by kernel_rfl) (fun _ _ _ h => h) (by rfl) ⟨hHc, hHB⟩ ?r30
                                                                                  case r30 =>
                                                                                    simp only [Act.put, List.setIfInBounds_toArray, List.set_cons_zero, List.set_cons_succ]
                                                                                    refine take_no (i := 26) rfl (by kernel_rfl) (by kernel_rfl) (by kernel_rfl) (fun _ _ _ h => h) (by rfl) ⟨hHc, hHB⟩ ?r31
                                                                                    case r31 =>
                                                                                      simp only [Act.put, List.setIfInBounds_toArray, List.set_cons_zero, List.set_cons_succ]
                                                                                      refine take_no (i := 27) rfl (by kernel_rfl) (by kernel_rfl) (by kernel_rfl) (fun _ _ _ h => h) (by rfl) ⟨hHc, hHB⟩ ?r32
                                                                                      case r32 =>
                                                                                        simp only [Act.put, List.setIfInBounds_toArray, List.set_cons_zero, List.set_cons_succ]
                                                                                        refine take_no (i := 28) rfl (by kernel_rfl) (by kernel_rfl) (by kernel_rfl) (fun _ _ _ h => h) (by rfl) ⟨hHc, hHB⟩ ?r33
                                                                                        case r33 =>
                                                                                          simp only [Act.put, List.setIfInBounds_toArray, List.set_cons_zero, List.set_cons_succ]
                                                                                          refine take_no (i := 29) rfl (by kernel_rfl) (by kernel_rfl) (by kernel_rfl) (fun _ _ _ h => h) (by rfl) ⟨hHc, hHB⟩ ?r34
                                                                                          case r34 =>
                                                                                            simp only [Act.put, List.setIfInBounds_toArray, List.set_cons_zero, List.set_cons_succ]
                                                                                            refine take_yes (i := 30) (v := ?v35) rfl (by kernel_rfl) (by kernel_rfl) (by kernel_rfl) (fun _ _ _ h => h) (by rfl) ?y35 ⟨hHc, hHB⟩ ?r35
                                                                                            case y35 => (intro w hSw; obtain ⟨hSw, _⟩ := hSw; go_simp; (try with_reducible rfl))
                                                                                            case r35 =>
                                                                                              simp only [Act.put, List.setIfInBounds_toArray, List.set_cons_zero, List.set_cons_succ]
                                                                                              refine take_yes (i := 31) (v := ?v36) rfl (by kernel_rfl) (by kernel_rfl) (by kernel_rfl) (fun _ _ _ h => h) (by rfl) ?y36 ⟨hHc, hHB⟩ ?r36
                                                                                              case y36 => (intro w hSw; obtain ⟨hSw, _⟩ := hSw; go_simp; (try with_reducible rfl))
                                                                                              case r36 =>
                                                                                                simp only [Act.put, List.setIfInBounds_toArray, List.set_cons_zero, List.set_cons_succ]
                                                                                                refine wpAnyH_done (by kernel_rfl) ?_ _
                                                                                                go_wp2_with fail
                                                                                                go_meet
                                                                                                exact ⟨rfl, hHB⟩
                                                                case m22 =>
                                                                  exact AllReadyH.nil
                                                          case m20 =>
                                                            exact AllReadyH.nil
                                                    case m18 =>
                                                      exact AllReadyH.nil
                                              case m16 =>
                                                refine cons_l rfl (fun K hK => ?s37) ?m37
                                                case s37 =>
                                                  go_simp
                                                  refine hK.out _ _ ⟨((Ch.refl (fun _ => False) _).alloc _).keeps hHc (fun e => e), hHB.alloc hHB.size _⟩ (fun hHeld => ?n37)
                                                  case n37 =>
                                                    clear hK K hHc hHB
                                                    obtain ⟨hHc, hHB⟩ := hHeld
                                                    try simp only [Act.put, List.setIfInBounds_toArray, List.set_cons_zero, List.set_cons_succ]
                                                    refine wpAnyH_ready (rs := [10]) (by kernel_rfl) (by simp) ?b38
                                                    case b38 =>
                                                      refine cons_l rfl (fun K hK => ?s39) ?m39
                                                      case s39 =>
                                                        ((refine step_append_rdw ?_ (.const (.slice none 0 0)) (.tmp 81) 30 rfl wr.heap.size 22 i0 _ 1 8 Tryd.underlying30 hi0 hz0 hz1 hz2 rfl q0 (.slice none 0 0) 0 [] rfl (own_none _ _ _ _) (G := fun b => w2.heap.size ≤ b) A8 (n + k) c8 (ints (xs ++ xs2.take k)) rfl ?_ z8 q1 q2 q3 q4 ?_ ?_); (focus ((first | rfl | (simp [Region.wanted, yielded]; done)))); (focus ((repeat' (first | (with_reducible exact (hr4)) | (exact Rd.of_blk (Blk.new _ _ [.int .i64 X]) (List.prefix_refl _) trivial) | (with_reducible refine Rd.keep ?_ ((Ch.refl (fun _ => False) _).drew) (fun _ _ _ e => e)) | (with_reducible refine Rd.keep ?_ ((Ch.refl (fun _ => False) _).alloc _) (fun _ _ _ e => e)) | ((with_reducible refine Rd.keep ?_ hcha (fun k _ hk e => ?_)); rotate_left; (focus (simp [Value.ownBlock] at e))))))); (focus ((first | omega | ((repeat (first | rw [World.size_alloc] | rw [World.size_drew])); omega)))); intro va wa howna hcha hata; have sza := hcha.size; (repeat (first | rw [World.size_alloc] at sza | rw [World.size_drew] at sza)); have kxa := hcha.keeps (p := ⟨bA, oA + k, none⟩) (v := .int .i64 X) hHc (by simp [Value.ownBlock]); have kya := hHB.trans (hcha.below (fun j _ e => by simp [Value.ownBlock] at e) hHB.size))
                                                        refine hK.out _ _ ⟨kxa, kya⟩ (fun hHeld => ?n39)
                                                        case n39 =>
                                                          clear hK K hHc hHB
                                                          obtain ⟨hHc, hHB⟩ := hHeld
                                                          try simp only [Act.put, List.setIfInBounds_toArray, List.set_cons_zero, List.set_cons_succ]
                                                          refine wpAnyH_ready (rs := [16]) (by kernel_rfl) (by simp) ?b40
                                                          case b40 =>
                                                            refine cons_l rfl (fun K hK => ?s41) ?m41
                                                            case s41 =>
                                                              ((refine step_append_rdw ?_ (.tmp 82) (.tmp 87) 30 rfl wr.heap.size 22 i0 _ 1 8 Tryd.underlying30 hi0 hz0 hz1 hz2 rfl q0 va (0 + (n + k)) ([] ++ ints (xs ++ xs2.take k)) rfl ?_ (G := fun _ => True) (some ⟨_, 0, none⟩) 1 1 [.int .i64 X] rfl ?_ (p5 _) p1 p2 p3 p4 ?_ ?_); (focus ((first | rfl | (simp [Region.wanted, yielded]; done)))); (focus ((repeat' (first | (with_reducible exact howna) | (with_reducible refine own_keep ?_ ((Ch.refl (fun _ => False) _).drew) (fun _ _ _ e => e)) | (with_reducible refine own_keep ?_ ((Ch.refl (fun _ => False) _).alloc _) (fun _ _ _ e => e)))))); (focus ((repeat' (first | (with_reducible exact (hr4)) | (exact Rd.of_blk (Blk.new _ _ [.int .i64 X]) (List.prefix_refl _) trivial) | (with_reducible refine Rd.keep ?_ ((Ch.refl (fun _ => False) _).drew) (fun _ _ _ e => e)) | (with_reducible refine Rd.keep ?_ ((Ch.refl (fun _ => False) _).alloc _) (fun _ _ _ e => e)) | ((with_reducible refine Rd.keep ?_ hcha (fun k _ hk e => ?_)); rotate_left; (focus (simp [Value.ownBlock] at e))))))); (focus ((first | omega | ((repeat (first | rw [World.size_alloc] | rw [World.size_drew])); omega)))); intro vb wb hownb hchb hatb; have szb := hchb.size; (repeat (first | rw [World.size_alloc] at szb | rw [World.size_drew] at szb)); have kxb := hchb.keeps (p := ⟨bA, oA + k, none⟩) (v := .int .i64 X) hHc (fun e => by rcases hata with h | h <;> rw [h] at e <;> first | (cases e; done) | (injection e with e; (try simp at e); omega)); have kyb := hHB.trans (hchb.below (fun j _ e => ownBlock_ge howna e) hHB.size))
                                                              refine hK.out _ _ ⟨kxb, kyb⟩ (fun hHeld => ?n41)
                                                              case n41 =>
                                                                clear hK K hHc hHB
                                                                obtain ⟨hHc, hHB⟩ := hHeld
                                                                try simp only [Act.put, List.setIfInBounds_toArray, List.set_cons_zero, List.set_cons_succ]
                                                                refine wpAnyH_ready (rs := [17]) (by kernel_rfl) (by simp) ?b42
                                                                case b42 =>
                                                                  refine cons_l rfl (fun K hK => ?s43) ?m43
                                                                  case s43 =>
                                                                    (go_simp; go_at_call 17; (have hob := hownb; rw [List.nil_append, HLY2.out] at hob; obtain ⟨Ab, cb, eb, kb, zb⟩ := own_slice hob; subst eb; (refine (hallx _ ?_ Ab cb ?_ ?_ ?_).mono ?_); (focus (exact ht.below (hB44.trans (hHB.mono hB44.size)))); (focus (exact (Rd.of_own hob).mono (fun _ _ _ => trivial))); (focus (omega)); (focus (exact own_cap hob)); rintro e w5 ⟨rfl, hB5⟩; have kxc := (Ch.of_below hB5 (fun _ => False)).keeps (p := ⟨bA, oA + k, none⟩) (v := .int .i64 X) hHc (fun e => e)); have kyc := hHB.trans (hB5.mono hHB.size))
                                                                    go_wp2_with fail
                                                                    refine hK.out _ _ ⟨kxc, kyc⟩ (fun hHeld => ?n43)
                                                                    case n43 =>
                                                                      clear hK K hHc hHB
                                                                      obtain ⟨hHc, hHB⟩ := hHeld
                                                                      try simp only [Act.put, List.setIfInBounds_toArray, List.set_cons_zero, List.set_cons_succ]
                                                                      refine take_yes (i := 18) (v := ?v44) rfl (by kernel_rfl) (by kernel_rfl) (by kernel_rfl) (fun _ _ _ h => h) (by rfl) ?y44 ⟨hHc, hHB⟩ ?r44
                                                                      case y44 => (intro w hSw; obtain ⟨hSw, _⟩ := hSw; go_simp; (try with_reducible rfl))
                                                                      case r44 =>
                                                                        simp only [Act.put, List.setIfInBounds_toArray, List.set_cons_zero, List.set_cons_succ]
                                                                        refine take_no (i := 19) rfl (by kernel_rfl) (by kernel_rfl) (by kernel_rfl) (fun _ _ _ h => h) (by rfl) ⟨hHc, hHB⟩ ?r45
                                                                        case r45 =>
                                                                          simp only [Act.put, List.setIfInBounds_toArray, List.set_cons_zero, List.set_cons_succ]
                                                                          refine take_no (i := 20) rfl (by kernel_rfl) (by kernel_rfl) (by kernel_rfl) (fun _ _ _ h => h) (by rfl) ⟨hHc, hHB⟩ ?r46
                                                                          case r46 =>
                                                                            simp only [Act.put, List.setIfInBounds_toArray, List.set_cons_zero, List.set_cons_succ]
                                                                            refine take_no (i := 21) rfl (by kernel_rfl) (by kernel_rfl) (by kernel_rfl) (fun _ _ _ h => h) (by rfl) ⟨hHc, hHB⟩ ?r47
                                                                            case r47 =>
                                                                              simp only [Act.put, List.setIfInBounds_toArray, List.set_cons_zero, List.set_cons_succ]
                                                                              refine take_no (i := 22) rfl (by kernel_rfl) (by kernel_rfl) (by kernel_rfl) (fun _ _ _ h => h) (by rfl) ⟨hHc, hHB⟩ ?r48
                                                                              case r48 =>
                                                                                simp only [Act.put, List.setIfInBounds_toArray, List.set_cons_zero, List.set_cons_succ]
                                                                                refine take_no (i := 23) rfl (by kernel_rfl) (by kernel_rfl) (by kernel_rfl) (fun _ _ _ h => h) (by rfl) ⟨hHc, hHB⟩ ?r49
                                                                                case r49 =>
                                                                                  simp only [Act.put, List.setIfInBounds_toArray, List.set_cons_zero, List.set_cons_succ]
                                                                                  refine take_no (i := 24) rfl (by kernel_rfl) (by kernel_rfl) (by kernel_rfl) (fun _ _ _ h => h) (by rfl) ⟨hHc, hHB⟩ ?r50
                                                                                  case r50 =>
                                                                                    simp only [Act.put, List.setIfInBounds_toArray, List.set_cons_zero, List.set_cons_succ]
                                                                                    refine take_no (i := 25) rfl (by kernel_rfl) (by kernel_rfl) (by kernel_rfl) (fun _ _ _ h => h) (by rfl) ⟨hHc, hHB⟩ ?r51
                                                                                    case r51 =>
                                                                                      simp only [Act.put, List.setIfInBounds_toArray, List.set_cons_zero, List.set_cons_succ]
                                                                                      refine take_no (i := 26) rfl (by kernel_rfl) (by kernel_rfl) (by kernel_rfl) (fun _ _ _ h => h) (by rfl) ⟨hHc, hHB⟩ ?r52
                                                                                      case r52 =>
                                                                                        simp only [Act.put, List.setIfInBounds_toArray, List.set_cons_zero, List.set_cons_succ]
                                                                                        refine take_no (i := 27) rfl (by kernel_rfl) (by kernel_rfl) (by kernel_rfl) (fun _ _ _ h => h) (by rfl) ⟨hHc, hHB⟩ ?r53
                                                                                        case r53 =>
                                                                                          simp only [Act.put, List.setIfInBounds_toArray, List.set_cons_zero, List.set_cons_succ]
                                                                                          refine take_no (i := 28) rfl (by kernel_rfl) (by kernel_rfl) (by kernel_rfl) (fun _ _ _ h => h) (by rfl) ⟨hHc, hHB⟩ ?r54
                                                                                          case r54 =>
                                                                                            simp only [Act.put, List.setIfInBounds_toArray, List.set_cons_zero, List.set_cons_succ]
                                                                                            refine take_no (i := 29) rfl (by kernel_rfl) (by kernel_rfl) (by kernel_rfl) (fun _ _ _ h => h) (by rfl) ⟨hHc, hHB⟩ ?r55
                                                                                            case r55 =>
                                                                                              simp only [Act.put, List.setIfInBounds_toArray, List.set_cons_zero, List.set_cons_succ]
                                                                                              refine take_yes (i := 30) (v := ?v56) rfl (by kernel_rfl) (by kernel_rfl) (by kernel_rfl) (fun _ _ _ h => h) (by rfl) ?y56 ⟨hHc, hHB⟩ ?r56
                                                                                              case y56 => (intro w hSw; obtain ⟨hSw, _⟩ := hSw; go_simp; (try with_reducible rfl))
                                                                                              case r56 =>
                                                                                                simp only [Act.put, List.setIfInBounds_toArray, List.set_cons_zero, List.set_cons_succ]
                                                                                                refine take_yes (i := 31) (v := ?v57) rfl (by kernel_rfl) (by kernel_rfl) (by kernel_rfl) (fun _ _ _ h => h) (by rfl) ?y57 ⟨hHc, hHB⟩ ?r57
                                                                                                case y57 => (intro w hSw; obtain ⟨hSw, _⟩ := hSw; go_simp; (try with_reducible rfl))
                                                                                                case r57 =>
                                                                                                  simp only [Act.put, List.setIfInBounds_toArray, List.set_cons_zero, List.set_cons_succ]
                                                                                                  refine wpAnyH_done (by kernel_rfl) ?_ _
                                                                                                  go_wp2_with fail
                                                                                                  go_meet
                                                                                                  exact ⟨rfl, hHB⟩
                                                                  case m43 =>
                                                                    exact AllReadyH.nil
                                                            case m41 =>
                                                              exact AllReadyH.nil
                                                      case m39 =>
                                                        exact AllReadyH.nil
                                                case m37 =>
                                                  exact AllReadyH.nil
            · obtain ⟨hX1, hX2⟩ := HFIN.out rfl
              have e1 : (X == 1) = true := by rw [beq_iff_eq]; exact hX1
              have e2 : (X != 1) = false := by simp [bne, e1]
              have t2 : decide (g + (S : Int) < 4) = false := decide_eq_false (by omega)
              clear hT hX2 hX1
              refine wp_region_held_drew (S := fun w' => w'.cell? ⟨bA, oA + k, none⟩ = some (.int .i64 X) ∧ Below wr.heap.size wr w') (by kernel_rfl) ?hsTrue (fun hHeld => ?hrTrue)
              case hsTrue => exact ⟨by go_cell, (Below.refl _ _).drew⟩
              case hrTrue =>
                obtain ⟨hHc, hHB⟩ := hHeld
                refine take_yes (i := 0) (v := ?v58) rfl (by kernel_rfl) (by kernel_rfl) (by kernel_rfl) (fun _ _ _ h => h) (by rfl) ?y58 ⟨hHc, hHB⟩ ?r58
                case y58 => (intro w hSw; obtain ⟨hSw, _⟩ := hSw; go_simp; (try with_reducible rfl))
                case r58 =>
                  simp only [Act.put, List.setIfInBounds_toArray, List.set_cons_zero, List.set_cons_succ]
                  refine take_yes (i := 1) (v := ?v59) rfl (by kernel_rfl) (by kernel_rfl) (by kernel_rfl) (fun _ _ _ h => h) (by rfl) ?y59 ⟨hHc, hHB⟩ ?r59
                  case y59 => (intro w hSw; obtain ⟨hSw, _⟩ := hSw; go_simp; (try with_reducible rfl))
                  case r59 =>
                    simp only [Act.put, List.setIfInBounds_toArray, List.set_cons_zero, List.set_cons_succ]
                    refine take_yes (i := 2) (v := ?v60) rfl (by kernel_rfl) (by kernel_rfl) (by kernel_rfl) (fun _ _ _ h => h) (by rfl) ?y60 ⟨hHc, hHB⟩ ?r60
                    case y60 => (intro w hSw; obtain ⟨hSw, _⟩ := hSw; go_simp; (try with_reducible rfl))
                    case r60 =>
                      simp only [Act.put, List.setIfInBounds_toArray, List.set_cons_zero, List.set_cons_succ]
                      refine take_yes (i := 3) (v := ?v61) rfl (by kernel_rfl) (by kernel_rfl) (by kernel_rfl) (fun _ _ _ h => h) (by rfl) ?y61 ⟨hHc, hHB⟩ ?r61
                      case y61 => (intro w hSw; obtain ⟨hSw, _⟩ := hSw; go_simp; (try with_reducible rfl))
                      case r61 =>
                        simp only [Act.put, List.setIfInBounds_toArray, List.set_cons_zero, List.set_cons_succ]
                        refine take_yes (i := 4) (v := ?v62) rfl (by kernel_rfl) (by kernel_rfl) (by kernel_rfl) (fun _ _ _ h => h) (by rfl) ?y62 ⟨hHc, hHB⟩ ?r62
                        case y62 => (intro w hSw; obtain ⟨hSw, _⟩ := hSw; go_simp; (try with_reducible rfl))
                        case r62 =>
                          simp only [Act.put, List.setIfInBounds_toArray, List.set_cons_zero, List.set_cons_succ]
                          refine take_no (i := 5) rfl (by kernel_rfl) (by kernel_rfl) (by kernel_rfl) (fun _ _ _ h => h) (by rfl) ⟨hHc, hHB⟩ ?r63
                          case r63 =>
                            simp only [Act.put, List.setIfInBounds_toArray, List.set_cons_zero, List.set_cons_succ]
                            refine take_no (i := 6) rfl (by kernel_rfl) (by kernel_rfl) (by kernel_rfl) (fun _ _ _ h => h) (by rfl) ⟨hHc, hHB⟩ ?r64
                            case r64 =>
                              simp only [Act.put, List.setIfInBounds_toArray, List.set_cons_zero, List.set_cons_succ]
                              refine take_yes (i := 7) (v := ?v65) rfl (by kernel_rfl) (by kernel_rfl) (by kernel_rfl) (fun _ _ _ h => h) (by rfl) ?y65 ⟨hHc, hHB⟩ ?r65
                              case y65 => (intro w hSw; obtain ⟨hSw, _⟩ := hSw; go_simp; (try with_reducible rfl))
                              case r65 =>
                                simp only [Act.put, List.setIfInBounds_toArray, List.set_cons_zero, List.set_cons_succ]
                                refine take_yes (i := 8) (v := ?v66) rfl (by kernel_rfl) (by kernel_rfl) (by kernel_rfl) (fun _ _ _ h => h) (by rfl) ?y66 ⟨hHc, hHB⟩ ?r66
                                case y66 => (intro w hSw; obtain ⟨hSw, _⟩ := hSw; go_simp; (try with_reducible rfl))
                                case r66 =>
                                  simp only [Act.put, List.setIfInBounds_toArray, List.set_cons_zero, List.set_cons_succ]
                                  refine take_yes (i := 9) (v := ?v67) rfl (by kernel_rfl) (by kernel_rfl) (by kernel_rfl) (fun _ _ _ h => h) (by rfl) ?y67 ⟨hHc, hHB⟩ ?r67
                                  case y67 => (intro w hSw; obtain ⟨hSw, _⟩ := hSw; go_simp; (try with_reducible rfl))
                                  case r67 =>
                                    simp only [Act.put, List.setIfInBounds_toArray, List.set_cons_zero, List.set_cons_succ]
                                    refine take_yes (i := 11) (v := ?v68) rfl (by kernel_rfl) (by kernel_rfl) (by kernel_rfl) (fun _ _ _ h => h) (by rfl) ?y68 ⟨hHc, hHB⟩ ?r68
                                    case y68 => (intro w hSw; obtain ⟨hSw, _⟩ := hSw; go_simp; (try with_reducible rfl))
                                    case r68 =>
                                      simp only [Act.put, List.setIfInBounds_toArray, List.set_cons_zero, List.set_cons_succ]
                                      refine take_yes (i := 12) (v := ?v69) rfl (by kernel_rfl) (by kernel_rfl) (by kernel_rfl) (fun _ _ _ h => h) (by rfl) ?y69 ⟨hHc, hHB⟩ ?r69
                                      case y69 => (intro w hSw; obtain ⟨hSw, _⟩ := hSw; go_simp; (try with_reducible rfl))
                                      case r69 =>
                                        simp only [Act.put, List.setIfInBounds_toArray, List.set_cons_zero, List.set_cons_succ]
                                        refine take_yes (i := 13) (v := ?v70) rfl (by kernel_rfl) (by kernel_rfl) (by kernel_rfl) (fun _ _ _ h => h) (by rfl) ?y70 ⟨hHc, hHB⟩ ?r70
                                        case y70 => (intro w hSw; obtain ⟨hSw, _⟩ := hSw; go_simp; (try with_reducible rfl))
                                        case r70 =>
                                          simp only [Act.put, List.setIfInBounds_toArray, List.set_cons_zero, List.set_cons_succ]
                                          refine take_yes (i := 14) (v := ?v71) rfl (by kernel_rfl) (by kernel_rfl) (by kernel_rfl) (fun _ _ _ h => h) (by rfl) ?y71 ⟨hHc, hHB⟩ ?r71
                                          case y71 => (intro w hSw; obtain ⟨hSw, _⟩ := hSw; go_simp; (try with_reducible rfl))
                                          case r71 =>
                                            simp only [Act.put, List.setIfInBounds_toArray, List.set_cons_zero, List.set_cons_succ]
                                            refine wpAnyH_ready (rs := [10, 15]) (by kernel_rfl) (by simp) ?b72
                                            case b72 =>
                                              refine cons_l rfl (fun K hK => ?s73) ?m73
                                              case s73 =>
                                                ((refine step_append_rdw ?_ (.const (.slice none 0 0)) (.tmp 81) 30 rfl wr.heap.size 22 i0 _ 1 8 Tryd.underlying30 hi0 hz0 hz1 hz2 rfl q0 (.slice none 0 0) 0 [] rfl (own_none _ _ _ _) (G := fun b => w2.heap.size ≤ b) A8 (n + k) c8 (ints (xs ++ xs2.take k)) rfl ?_ z8 q1 q2 q3 q4 ?_ ?_); (focus ((first | rfl | (simp [Region.wanted, yielded]; done)))); (focus ((repeat' (first | (with_reducible exact (hr4)) | (exact Rd.of_blk (Blk.new _ _ [.int .i64 X]) (List.prefix_refl _) trivial) | (with_reducible refine Rd.keep ?_ ((Ch.refl (fun _ => False) _).drew) (fun _ _ _ e => e)) | (with_reducible refine Rd.keep ?_ ((Ch.refl (fun _ => False) _).alloc _) (fun _ _ _ e => e)) | ((with_reducible refine Rd.keep ?_ hcha (fun k _ hk e => ?_)); rotate_left; (focus (simp [Value.ownBlock] at e))))))); (focus ((first | omega | ((repeat (first | rw [World.size_alloc] | rw [World.size_drew])); omega)))); intro va wa howna hcha hata; have sza := hcha.size; (repeat (first | rw [World.size_alloc] at sza | rw [World.size_drew] at sza)); have kxa := hcha.keeps (p := ⟨bA, oA + k, none⟩) (v := .int .i64 X) hHc (by simp [Value.ownBlock]); have kya := hHB.trans (hcha.below (fun j _ e => by simp [Value.ownBlock] at e) hHB.size))
                                                refine hK.out _ _ ⟨kxa, kya⟩ (fun hHeld => ?n73)
                                                case n73 =>
                                                  clear hK K hHc hHB
                                                  obtain ⟨hHc, hHB⟩ := hHeld
                                                  try simp only [Act.put, List.setIfInBounds_toArray, List.set_cons_zero, List.set_cons_succ]
                                                  refine wpAnyH_ready (rs := [15]) (by kernel_rfl) (by simp) ?b74
                                                  case b74 =>
                                                    refine cons_l rfl (fun K hK => ?s75) ?m75
                                                    case s75 =>
                                                      go_simp
                                                      refine hK.out _ _ ⟨((Ch.refl (fun _ => False) _).alloc _).keeps hHc (fun e => e), hHB.alloc hHB.size _⟩ (fun hHeld => ?n75)
                                                      case n75 =>
                                                        clear hK K hHc hHB
                                                        obtain ⟨hHc, hHB⟩ := hHeld
                                                        try simp only [Act.put, List.setIfInBounds_toArray, List.set_cons_zero, List.set_cons_succ]
                                                        refine wpAnyH_ready (rs := [16]) (by kernel_rfl) (by simp) ?b76
                                                        case b76 =>
                                                          refine cons_l rfl (fun K hK => ?s77) ?m77
                                                          case s77 =>
                                                            ((refine step_append_rdw ?_ (.tmp 82) (.tmp 87) 30 rfl wr.heap.size 22 i0 _ 1 8 Tryd.underlying30 hi0 hz0 hz1 hz2 rfl q0 va (0 + (n + k)) ([] ++ ints (xs ++ xs2.take k)) rfl ?_ (G := fun _ => True) (some ⟨_, 0, none⟩) 1 1 [.int .i64 X] rfl ?_ (p5 _) p1 p2 p3 p4 ?_ ?_); (focus ((first | rfl | (simp [Region.wanted, yielded]; done)))); (focus ((repeat' (first | (with_reducible exact howna) | (with_reducible refine own_keep ?_ ((Ch.refl (fun _ => False) _).drew) (fun _ _ _ e => e)) | (with_reducible refine own_keep ?_ ((Ch.refl (fun _ => False) _).alloc _) (fun _ _ _ e => e)))))); (focus ((repeat' (first | (with_reducible exact (hr4)) | (exact Rd.of_blk (Blk.new _ _ [.int .i64 X]) (List.prefix_refl _) trivial) | (with_reducible refine Rd.keep ?_ ((Ch.refl (fun _ => False) _).drew) (fun _ _ _ e => e)) | (with_reducible refine Rd.keep ?_ ((Ch.refl (fun _ => False) _).alloc _) (fun _ _ _ e => e)) | ((with_reducible refine Rd.keep ?_ hcha (fun k _ hk e => ?_)); rotate_left; (focus (simp [Value.ownBlock] at e))))))); (focus ((first | omega | ((repeat (first | rw [World.size_alloc] | rw [World.size_drew])); omega)))); intro vb wb hownb hchb hatb; have szb := hchb.size; (repeat (first | rw [World.size_alloc] at szb | rw [World.size_drew] at szb)); have kxb := hchb.keeps (p := ⟨bA, oA + k, none⟩) (v := .int .i64 X) hHc (fun e => by rcases hata with h | h <;> rw [h] at e <;> first | (cases e; done) | (injection e with e; (try simp at e); omega)); have kyb := hHB.trans (hchb.below (fun j _ e => ownBlock_ge howna e) hHB.size))
                                                            refine hK.out _ _ ⟨kxb, kyb⟩ (fun hHeld => ?n77)
                                                            case n77 =>
                                                              clear hK K hHc hHB
                                                              obtain ⟨hHc, hHB⟩ := hHeld
                                                              try simp only [Act.put, List.setIfInBounds_toArray, List.set_cons_zero, List.set_cons_succ]
                                                              refine wpAnyH_ready (rs := [17]) (by kernel_rfl) (by simp) ?b78
                                                              case b78 =>
                                                                refine cons_l rfl (fun K hK => ?s79) ?m79
                                                                case s79 =>
                                                                  (go_simp; go_at_call 17; (have hob := hownb; rw [List.nil_append, HLY2.out] at hob; obtain ⟨Ab, cb, eb, kb, zb⟩ := own_slice hob; subst eb; (refine (hallx _ ?_ Ab cb ?_ ?_ ?_).mono ?_); (focus (exact ht.below (hB44.trans (hHB.mono hB44.size)))); (focus (exact (Rd.of_own hob).mono (fun _ _ _ => trivial))); (focus (omega)); (focus (exact own_cap hob)); rintro e w5 ⟨rfl, hB5⟩; have kxc := (Ch.of_below hB5 (fun _ => False)).keeps (p := ⟨bA, oA + k, none⟩) (v := .int .i64 X) hHc (fun e => e)); have kyc := hHB.trans (hB5.mono hHB.size))
                                                                  go_wp2_with fail
                                                                  refine hK.out _ _ ⟨kxc, kyc⟩ (fun hHeld => ?n79)
                                                                  case n79 =>
                                                                    clear hK K hHc hHB
                                                                    obtain ⟨hHc, hHB⟩ := hHeld
                                                                    try simp only [Act.put, List.setIfInBounds_toArray, List.set_cons_zero, List.set_cons_succ]
                                                                    refine take_yes (i := 18) (v := ?v80) rfl (by kernel_rfl) (by kernel_rfl) (by kernel_rfl) (fun _ _ _ h => h) (by rfl) ?y80 ⟨hHc, hHB⟩ ?r80
                                                                    case y80 => (intro w hSw; obtain ⟨hSw, _⟩ := hSw; go_simp; (try with_reducible rfl))
                                                                    case r80 =>
                                                                      simp only [Act.put, List.setIfInBounds_toArray, List.set_cons_zero, List.set_cons_succ]
                                                                      refine take_yes (i := 19) (v := ?v81) rfl (by kernel_rfl) (by kernel_rfl) (by kernel_rfl) (fun _ _ _ h => h) (by rfl) ?y81 ⟨hHc, hHB⟩ ?r81
                                                                      case y81 => (intro w hSw; obtain ⟨hSw, _⟩ := hSw; go_simp; (try with_reducible rfl))
                                                                      case r81 =>
                                                                        simp only [Act.put, List.setIfInBounds_toArray, List.set_cons_zero, List.set_cons_succ]
                                                                        refine take_yes (i := 20) (v := ?v82) rfl (by kernel_rfl) (by kernel_rfl) (by kernel_rfl) (fun _ _ _ h => h) (by rfl) ?y82 ⟨hHc, hHB⟩ ?r82
                                                                        case y82 => (intro w hSw; obtain ⟨hSw, _⟩ := hSw; go_simp; (try with_reducible rfl))
                                                                        case r82 =>
                                                                          simp only [Act.put, List.setIfInBounds_toArray, List.set_cons_zero, List.set_cons_succ]
                                                                          refine take_yes (i := 21) (v := ?v83) rfl (by kernel_rfl) (by kernel_rfl) (by kernel_rfl) (fun _ _ _ h => h) (by rfl) ?y83 ⟨hHc, hHB⟩ ?r83
                                                                          case y83 => (intro w hSw; obtain ⟨hSw, _⟩ := hSw; go_simp; (try with_reducible rfl))
                                                                          case r83 =>
                                                                            simp only [Act.put, List.setIfInBounds_toArray, List.set_cons_zero, List.set_cons_succ]
                                                                            refine take_yes (i := 22) (v := ?v84) rfl (by kernel_rfl) (by kernel_rfl) (by kernel_rfl) (fun _ _ _ h => h) (by rfl) ?y84 ⟨hHc, hHB⟩ ?r84
                                                                            case y84 => (intro w hSw; obtain ⟨hSw, _⟩ := hSw; go_simp; (try with_reducible rfl))
                                                                            case r84 =>
                                                                              simp only [Act.put, List.setIfInBounds_toArray, List.set_cons_zero, List.set_cons_succ]
                                                                              refine take_yes (i := 23) (v := ?v85) rfl (by kernel_rfl) (by kernel_rfl) (by kernel_rfl) (fun _ _ _ h => h) (by rfl) ?y85 ⟨hHc, hHB⟩ ?r85
                                                                              case y85 => (intro w hSw; obtain ⟨hSw, _⟩ := hSw; go_simp; (try with_reducible rfl))
                                                                              case r85 =>
                                                                                simp only [Act.put, List.setIfInBounds_toArray, List.set_cons_zero, List.set_cons_succ]
                                                                                refine take_yes (i := 24) (v := ?v86) rfl (by kernel_rfl) (by kernel_rfl) (by kernel_rfl) (fun _ _ _ h => h) (by rfl) ?y86 ⟨hHc, hHB⟩ ?r86
                                                                                case y86 => (intro w hSw; obtain ⟨hSw, _⟩ := hSw; go_simp; (try with_reducible rfl))
                                                                                case r86 =>
                                                                                  simp only [Act.put, List.setIfInBounds_toArray, List.set_cons_zero, List.set_cons_succ]
                                                                                  refine take_yes (i := 25) (v := ?v87) rfl (by kernel_rfl) (by kernel_rfl) (by kernel_rfl) (fun _ _ _ h => h) (by rfl) ?y87 ⟨hHc, hHB⟩ ?r87
                                                                                  case y87 => (intro w hSw; obtain ⟨hSw, _⟩ := hSw; go_simp; (try with_reducible rfl))
                                                                                  case r87 =>
                                                                                    simp only [Act.put, List.setIfInBounds_toArray, List.set_cons_zero, List.set_cons_succ]
                                                                                    refine take_yes (i := 26) (v := ?v88) rfl (by kernel_rfl) (by kernel_rfl) (by kernel_rfl) (fun _ _ _ h => h) (by rfl) ?y88 ⟨hHc, hHB⟩ ?r88
                                                                                    case y88 => (intro w hSw; obtain ⟨hSw, _⟩ := hSw; go_simp; (try with_reducible rfl))
                                                                                    case r88 =>
                                                                                      simp only [Act.put, List.setIfInBounds_toArray, List.set_cons_zero, List.set_cons_succ]
                                                                                      refine take_yes (i := 27) (v := ?v89) rfl (by kernel_rfl) (by kernel_rfl) (by kernel_rfl) (fun _ _ _ h => h) (by rfl) ?y89 ⟨hHc, hHB⟩ ?r89
                                                                                      case y89 => (intro w hSw; obtain ⟨hSw, _⟩ := hSw; go_simp; (try with_reducible rfl))
                                                                                      case r89 =>
                                                                                        simp only [Act.put, List.setIfInBounds_toArray, List.set_cons_zero, List.set_cons_succ]
                                                                                        refine take_yes (i := 28) (v := ?v90) rfl (by kernel_rfl) (by kernel_rfl) (by kernel_rfl) (fun _ _ _ h => h) (by rfl) ?y90 ⟨hHc, hHB⟩ ?r90
                                                                                        case y90 => (intro w hSw; obtain ⟨hSw, _⟩ := hSw; go_simp; (try with_reducible rfl))
                                                                                        case r90 =>
                                                                                          simp only [Act.put, List.setIfInBounds_toArray, List.set_cons_zero, List.set_cons_succ]
                                                                                          refine take_yes (i := 29) (v := ?v91) rfl (by kernel_rfl) (by kernel_rfl) (by kernel_rfl) (fun _ _ _ h => h) (by rfl) ?y91 ⟨hHc, hHB⟩ ?r91
                                                                                          case y91 => (intro w hSw; obtain ⟨hSw, _⟩ := hSw; go_simp; (try with_reducible rfl))
                                                                                          case r91 =>
                                                                                            simp only [Act.put, List.setIfInBounds_toArray, List.set_cons_zero, List.set_cons_succ]
                                                                                            refine take_yes (i := 30) (v := ?v92) rfl (by kernel_rfl) (by kernel_rfl) (by kernel_rfl) (fun _ _ _ h => h) (by rfl) ?y92 ⟨hHc, hHB⟩ ?r92
                                                                                            case y92 => (intro w hSw; obtain ⟨hSw, _⟩ := hSw; go_simp; (try with_reducible rfl))
                                                                                            case r92 =>
                                                                                              simp only [Act.put, List.setIfInBounds_toArray, List.set_cons_zero, List.set_cons_succ]
                                                                                              refine take_yes (i := 31) (v := ?v93) rfl (by kernel_rfl) (by kernel_rfl) (by kernel_rfl) (fun _ _ _ h => h) (by rfl) ?y93 ⟨hHc, hHB⟩ ?r93
                                                                                              case y93 => (intro w hSw; obtain ⟨hSw, _⟩ := hSw; go_simp; (try with_reducible rfl))
                                                                                              case r93 =>
                                                                                                simp only [Act.put, List.setIfInBounds_toArray, List.set_cons_zero, List.set_cons_succ]
                                                                                                refine wpAnyH_done (by kernel_rfl) ?_ _
                                                                                                go_wp2_with fail
                                                                                                go_meet
                                                                                                exact ⟨rfl, hHB⟩
                                                                case m79 =>
                                                                  exact AllReadyH.nil
                                                          case m77 =>
                                                            exact AllReadyH.nil
                                                    case m75 =>
                                                      exact AllReadyH.nil
                                              case m73 =>
                                                refine cons_l rfl (fun K hK => ?s94) ?m94
                                                case s94 =>
                                                  go_simp
                                                  refine hK.out _ _ ⟨((Ch.refl (fun _ => False) _).alloc _).keeps hHc (fun e => e), hHB.alloc hHB.size _⟩ (fun hHeld => ?n94)
                                                  case n94 =>
                                                    clear hK K hHc hHB
                                                    obtain ⟨hHc, hHB⟩ := hHeld
                                                    try simp only [Act.put, List.setIfInBounds_toArray, List.set_cons_zero, List.set_cons_succ]
                                                    refine wpAnyH_ready (rs := [10]) (by kernel_rfl) (by simp) ?b95
                                                    case b95 =>
                                                      refine cons_l rfl (fun K hK => ?s96) ?m96
                                                      case s96 =>
                                                        ((refine step_append_rdw ?_ (.const (.slice none 0 0)) (.tmp 81) 30 rfl wr.heap.size 22 i0 _ 1 8 Tryd.underlying30 hi0 hz0 hz1 hz2 rfl q0 (.slice none 0 0) 0 [] rfl (own_none _ _ _ _) (G := fun b => w2.heap.size ≤ b) A8 (n + k) c8 (ints (xs ++ xs2.take k)) rfl ?_ z8 q1 q2 q3 q4 ?_ ?_); (focus ((first | rfl | (simp [Region.wanted, yielded]; done)))); (focus ((repeat' (first | (with_reducible exact (hr4)) | (exact Rd.of_blk (Blk.new _ _ [.int .i64 X]) (List.prefix_refl _) trivial) | (with_reducible refine Rd.keep ?_ ((Ch.refl (fun _ => False) _).drew) (fun _ _ _ e => e)) | (with_reducible refine Rd.keep ?_ ((Ch.refl (fun _ => False) _).alloc _) (fun _ _ _ e => e)) | ((with_reducible refine Rd.keep ?_ hcha (fun k _ hk e => ?_)); rotate_left; (focus (simp [Value.ownBlock] at e))))))); (focus ((first | omega | ((repeat (first | rw [World.size_alloc] | rw [World.size_drew])); omega)))); intro va wa howna hcha hata; have sza := hcha.size; (repeat (first | rw [World.size_alloc] at sza | rw [World.size_drew] at sza)); have kxa := hcha.keeps (p := ⟨bA, oA + k, none⟩) (v := .int .i64 X) hHc (by simp [Value.ownBlock]); have kya := hHB.trans (hcha.below (fun j _ e => by simp [Value.ownBlock] at e) hHB.size))
                                                        refine hK.out _ _ ⟨kxa, kya⟩ (fun hHeld => ?n96)
                                                        case n96 =>
                                                          clear hK K hHc hHB
                                                          obtain ⟨hHc, hHB⟩ := hHeld
                                                          try simp only [Act.put, List.setIfInBounds_toArray, List.set_cons_zero, List.set_cons_succ]
                                                          refine wpAnyH_ready (rs := [16]) (by kernel_rfl) (by simp) ?b97
                                                          case b97 =>
                                                            refine cons_l rfl (fun K hK => ?s98) ?m98
                                                            case s98 =>
                                                              ((refine step_append_rdw ?_ (.tmp 82) (.tmp 87) 30 rfl wr.heap.size 22 i0 _ 1 8 Tryd.underlying30 hi0 hz0 hz1 hz2 rfl q0 va (0 + (n + k)) ([] ++ ints (xs ++ xs2.take k)) rfl ?_ (G := fun _ => True) (some ⟨_, 0, none⟩) 1 1 [.int .i64 X] rfl ?_ (p5 _) p1 p2 p3 p4 ?_ ?_); (focus ((first | rfl | (simp [Region.wanted, yielded]; done)))); (focus ((repeat' (first | (with_reducible exact howna) | (with_reducible refine own_keep ?_ ((Ch.refl (fun _ => False) _).drew) (fun _ _ _ e => e)) | (with_reducible refine own_keep ?_ ((Ch.refl (fun _ => False) _).alloc _) (fun _ _ _ e => e)))))); (focus ((repeat' (first | (with_reducible exact (hr4)) | (exact Rd.of_blk (Blk.new _ _ [.int .i64 X]) (List.prefix_refl _) trivial) | (with_reducible refine Rd.keep ?_ ((Ch.refl (fun _ => False) _).drew) (fun _ _ _ e => e)) | (with_reducible refine Rd.keep ?_ ((Ch.refl (fun _ => False) _).alloc _) (fun _ _ _ e => e)) | ((with_reducible refine Rd.keep ?_ hcha (fun k _ hk e => ?_)); rotate_left; (focus (simp [Value.ownBlock] at e))))))); (focus ((first | omega | ((repeat (first | rw [World.size_alloc] | rw [World.size_drew])); omega)))); intro vb wb hownb hchb hatb; have szb := hchb.size; (repeat (first | rw [World.size_alloc] at szb | rw [World.size_drew] at szb)); have kxb := hchb.keeps (p := ⟨bA, oA + k, none⟩) (v := .int .i64 X) hHc (fun e => by rcases hata with h | h <;> rw [h] at e <;> first | (cases e; done) | (injection e with e; (try simp at e); omega)); have kyb := hHB.trans (hchb.below (fun j _ e => ownBlock_ge howna e) hHB.size))
                                                              refine hK.out _ _ ⟨kxb, kyb⟩ (fun hHeld => ?n98)
                                                              case n98 =>
                                                                clear hK K hHc hHB
                                                                obtain ⟨hHc, hHB⟩ := hHeld
                                                                try simp only [Act.put, List.setIfInBounds_toArray, List.set_cons_zero, List.set_cons_succ]
                                                                refine wpAnyH_ready (rs := [17]) (by kernel_rfl) (by simp) ?b99
                                                                case b99 =>
                                                                  refine cons_l rfl (fun K hK => ?s100) ?m100
                                                                  case s100 =>
                                                                    (go_simp; go_at_call 17; (have hob := hownb; rw [List.nil_append, HLY2.out] at hob; obtain ⟨Ab, cb, eb, kb, zb⟩ := own_slice hob; subst eb; (refine (hallx _ ?_ Ab cb ?_ ?_ ?_).mono ?_); (focus (exact ht.below (hB44.trans (hHB.mono hB44.size)))); (focus (exact (Rd.of_own hob).mono (fun _ _ _ => trivial))); (focus (omega)); (focus (exact own_cap hob)); rintro e w5 ⟨rfl, hB5⟩; have kxc := (Ch.of_below hB5 (fun _ => False)).keeps (p := ⟨bA, oA + k, none⟩) (v := .int .i64 X) hHc (fun e => e)); have kyc := hHB.trans (hB5.mono hHB.size))
                                                                    go_wp2_with fail
                                                                    refine hK.out _ _ ⟨kxc, kyc⟩ (fun hHeld => ?n100)
                                                                    case n100 =>
                                                                      clear hK K hHc hHB
                                                                      obtain ⟨hHc, hHB⟩ := hHeld
                                                                      try simp only [Act.put, List.setIfInBounds_toArray, List.set_cons_zero, List.set_cons_succ]
                                                                      refine take_yes (i := 18) (v := ?v101) rfl (by kernel_rfl) (by kernel_rfl) (by kernel_rfl) (fun _ _ _ h => h) (by rfl) ?y101 ⟨hHc, hHB⟩ ?r101
                                                                      case y101 => (intro w hSw; obtain ⟨hSw, _⟩ := hSw; go_simp; (try with_reducible rfl))
                                                                      case r101 =>
                                                                        simp only [Act.put, List.setIfInBounds_toArray, List.set_cons_zero, List.set_cons_succ]
                                                                        refine take_yes (i := 19) (v := ?v102) rfl (by kernel_rfl) (by kernel_rfl) (by kernel_rfl) (fun _ _ _ h => h) (by rfl) ?y102 ⟨hHc, hHB⟩ ?r102
                                                                        case y102 => (intro w hSw; obtain ⟨hSw, _⟩ := hSw; go_simp; (try with_reducible rfl))
                                                                        case r102 =>
                                                                          simp only [Act.put, List.setIfInBounds_toArray, List.set_cons_zero, List.set_cons_succ]
                                                                          refine take_yes (i := 20) (v := ?v103) rfl (by kernel_rfl) (by kernel_rfl) (by kernel_rfl) (fun _ _ _ h => h) (by rfl) ?y103 ⟨hHc, hHB⟩ ?r103
                                                                          case y103 => (intro w hSw; obtain ⟨hSw, _⟩ := hSw; go_simp; (try with_reducible rfl))
                                                                          case r103 =>
                                                                            simp only [Act.put, List.setIfInBounds_toArray, List.set_cons_zero, List.set_cons_succ]
                                                                            refine take_yes (i := 21) (v := ?v104) rfl (by kernel_rfl) (by kernel_rfl) (by kernel_rfl) (fun _ _ _ h => h) (by rfl) ?y104 ⟨hHc, hHB⟩ ?r104
                                                                            case y104 => (intro w hSw; obtain ⟨hSw, _⟩ := hSw; go_simp; (try with_reducible rfl))
                                                                            case r104 =>
                                                                              simp only [Act.put, List.setIfInBounds_toArray, List.set_cons_zero, List.set_cons_succ]
                                                                              refine take_yes (i := 22) (v := ?v105) rfl (by kernel_rfl) (by kernel_rfl) (by kernel_rfl) (fun _ _ _ h => h) (by rfl) ?y105 ⟨hHc, hHB⟩ ?r105
                                                                              case y105 => (intro w hSw; obtain ⟨hSw, _⟩ := hSw; go_simp; (try with_reducible rfl))
                                                                              case r105 =>
                                                                                simp only [Act.put, List.setIfInBounds_toArray, List.set_cons_zero, List.set_cons_succ]
                                                                                refine take_yes (i := 23) (v := ?v106) rfl (by kernel_rfl) (by kernel_rfl) (by kernel_rfl) (fun _ _ _ h => h) (by rfl) ?y106 ⟨hHc, hHB⟩ ?r106
                                                                                case y106 => (intro w hSw; obtain ⟨hSw, _⟩ := hSw; go_simp; (try with_reducible rfl))
                                                                                case r106 =>
                                                                                  simp only [Act.put, List.setIfInBounds_toArray, List.set_cons_zero, List.set_cons_succ]
                                                                                  refine take_yes (i := 24) (v := ?v107) rfl (by kernel_rfl) (by kernel_rfl) (by kernel_rfl) (fun _ _ _ h => h) (by rfl) ?y107 ⟨hHc, hHB⟩ ?r107
                                                                                  case y107 => (intro w hSw; obtain ⟨hSw, _⟩ := hSw; go_simp; (try with_reducible rfl))
                                                                                  case r107 =>
                                                                                    simp only [Act.put, List.setIfInBounds_toArray, List.set_cons_zero, List.set_cons_succ]
                                                                                    refine take_yes (i := 25) (v := ?v108) rfl (by kernel_rfl) (by kernel_rfl) (by kernel_rfl) (fun _ _ _ h => h) (by rfl) ?y108 ⟨hHc, hHB⟩ ?r108
                                                                                    case y108 => (intro w hSw; obtain ⟨hSw, _⟩ := hSw; go_simp; (try with_reducible rfl))
                                                                                    case r108 =>
                                                                                      simp only [Act.put, List.setIfInBounds_toArray, List.set_cons_zero, List.set_cons_succ]
                                                                                      refine take_yes (i := 26) (v := ?v109) rfl (by kernel_rfl) (by kernel_rfl) (by kernel_rfl) (fun _ _ _ h => h) (by rfl) ?y109 ⟨hHc, hHB⟩ ?r109
                                                                                      case y109 => (intro w hSw; obtain ⟨hSw, _⟩ := hSw; go_simp; (try with_reducible rfl))
                                                                                      case r109 =>
                                                                                        simp only [Act.put, List.setIfInBounds_toArray, List.set_cons_zero, List.set_cons_succ]
                                                                                        refine take_yes (i := 27) (v := ?v110) rfl (by kernel_rfl) (by kernel_rfl) (by kernel_rfl) (fun _ _ _ h => h) (by rfl) ?y110 ⟨hHc, hHB⟩ ?r110
                                                                                        case y110 => (intro w hSw; obtain ⟨hSw, _⟩ := hSw; go_simp; (try with_reducible rfl))
                                                                                        case r110 =>
                                                                                          simp only [Act.put, List.setIfInBounds_toArray, List.set_cons_zero, List.set_cons_succ]
                                                                                          refine take_yes (i := 28) (v := ?v111) rfl (by kernel_rfl) (by kernel_rfl) (by kernel_rfl) (fun _ _ _ h => h) (by rfl) ?y111 ⟨hHc, hHB⟩ ?r111
                                                                                          case y111 => (intro w hSw; obtain ⟨hSw, _⟩ := hSw; go_simp; (try with_reducible rfl))
                                                                                          case r111 =>
                                                                                            simp only [Act.put, List.setIfInBounds_toArray, List.set_cons_zero, List.set_cons_succ]
                                                                                            refine take_yes (i := 29) (v := ?v112) rfl (by kernel_rfl) (by kernel_rfl) (by kernel_rfl) (fun _ _ _ h => h) (by rfl) ?y112 ⟨hHc, hHB⟩ ?r112
                                                                                            case y112 => (intro w hSw; obtain ⟨hSw, _⟩ := hSw; go_simp; (try with_reducible rfl))
                                                                                            case r112 =>
                                                                                              simp only [Act.put, List.setIfInBounds_toArray, List.set_cons_zero, List.set_cons_succ]
                                                                                              refine take_yes (i := 30) (v := ?v113) rfl (by kernel_rfl) (by kernel_rfl) (by kernel_rfl) (fun _ _ _ h => h) (by rfl) ?y113 ⟨hHc, hHB⟩ ?r113
                                                                                              case y113 => (intro w hSw; obtain ⟨hSw, _⟩ := hSw; go_simp; (try with_reducible rfl))
                                                                                              case r113 =>
                                                                                                simp only [Act.put, List.setIfInBounds_toArray, List.set_cons_zero, List.set_cons_succ]
                                                                                                refine take_yes (i := 31) (v := ?v114) rfl (by kernel_rfl) (by kernel_rfl) (by kernel_rfl) (fun _ _ _ h => h) (by rfl) ?y114 ⟨hHc, hHB⟩ ?r114
                                                                                                case y114 => (intro w hSw; obtain ⟨hSw, _⟩ := hSw; go_simp; (try with_reducible rfl))
                                                                                                case r114 =>
                                                                                                  simp only [Act.put, List.setIfInBounds_toArray, List.set_cons_zero, List.set_cons_succ]
                                                                                                  refine wpAnyH_done (by kernel_rfl) ?_ _
                                                                                                  go_wp2_with fail
                                                                                                  go_meet
                                                                                                  exact ⟨rfl, hHB⟩
                                                                  case m100 =>
                                                                    exact AllReadyH.nil
                                                            case m98 =>
                                                              exact AllReadyH.nil
                                                      case m96 =>
                                                        exact AllReadyH.nil
                                                case m94 =>
                                                  exact AllReadyH.nil
          case rest =>
            obtain ⟨rfl, hB5⟩ := hcut
            have hB6 := hB44.trans (hB5.mono hB44.size)
            have hqr : Rd (fun _ => True) wc _ (ints xs2) := (hrb4.keep (Ch.of_below hB5 (fun _ => False)) (fun _ _ _ e => e)).mono (fun _ _ _ => trivial)
            obtain hzz | ⟨hn0, hg0, hn20⟩ : (n ≠ 0 ∨ g ≠ 0 ∨ n2 = 0) ∨ (n = 0 ∧ g = 0 ∧ 0 < n2) := by omega
            · have z1 : ((n : Int) == 0) = decide (n = 0) := by rw [Bool.eq_iff_iff, beq_iff_eq, decide_eq_true_iff]; omega
              have z2 : (g == 0) = decide (g = 0) := by rw [Bool.eq_iff_iff, beq_iff_eq, decide_eq_true_iff]
              have z3 : decide (0 < (n2 : Int)) = decide (0 < n2) := by rw [decide_eq_decide]; omega
              by_cases hn0 : n = 0
              · rw [decide_eq_true hn0] at z1
                by_cases hg0 : g = 0
                · rw [decide_eq_true hg0] at z2
                  exfalso; omega
                · rw [decide_eq_false hg0] at z2
                  clear hn0 hg0 hzz z3
                  go_wp2_with (first | (go_at_call 14; refine (known_ok _ (ht.below (by (repeat' (first | (with_reducible exact Below.refl _ _) | (with_reducible assumption) | (with_reducible refine Below.alloc ?_ ?_ _) | (with_reducible refine Below.drew ?_) | (with_reducible refine below_drewN ?_ _) | (with_reducible refine Below.setCell ?_ ?_ _) | (with_reducible refine Below.trans ?_ (Below.mono (by assumption) ?_)) | (first | go_size | (with_reducible exact Below.size (by assumption)) | (with_reducible exact Nat.le_trans (Below.size (by assumption)) (Below.size (by assumption))) | (refine Nat.le_trans (Below.size (by assumption)) ?_; go_size)))))) (ht2.below (by (repeat' (first | (with_reducible exact Below.refl _ _) | (with_reducible assumption) | (with_reducible refine Below.alloc ?_ ?_ _) | (with_reducible refine Below.drew ?_) | (with_reducible refine below_drewN ?_ _) | (with_reducible refine Below.setCell ?_ ?_ _) | (with_reducible refine Below.trans ?_ (Below.mono (by assumption) ?_)) | (first | go_size | (with_reducible exact Below.size (by assumption)) | (with_reducible exact Nat.le_trans (Below.size (by assumption)) (Below.size (by assumption))) | (refine Nat.le_trans (Below.size (by assumption)) ?_; go_size))))))).mono ?_; rintro e w' ⟨rfl, hg⟩))
                  go_ret
                  exact ⟨rfl, by (repeat' (first | (with_reducible exact Below.refl _ _) | (with_reducible assumption) | (with_reducible refine Below.alloc ?_ ?_ _) | (with_reducible refine Below.drew ?_) | (with_reducible refine below_drewN ?_ _) | (with_reducible refine Below.setCell ?_ ?_ _) | (with_reducible refine Below.trans ?_ (Below.mono (by assumption) ?_)) | (first | go_size | (with_reducible exact Below.size (by assumption)) | (with_reducible exact Nat.le_trans (Below.size (by assumption)) (Below.size (by assumption))) | (refine Nat.le_trans (Below.size (by assumption)) ?_; go_size))))⟩
              · rw [decide_eq_false hn0] at z1
                clear hn0 hzz z2 z3
                go_wp2_with (first | (go_at_call 14; refine (known_ok _ (ht.below (by (repeat' (first | (with_reducible exact Below.refl _ _) | (with_reducible assumption) | (with_reducible refine Below.alloc ?_ ?_ _) | (with_reducible refine Below.drew ?_) | (with_reducible refine below_drewN ?_ _) | (with_reducible refine Below.setCell ?_ ?_ _) | (with_reducible refine Below.trans ?_ (Below.mono (by assumption) ?_)) | (first | go_size | (with_reducible exact Below.size (by assumption)) | (with_reducible exact Nat.le_trans (Below.size (by assumption)) (Below.size (by assumption))) | (refine Nat.le_trans (Below.size (by assumption)) ?_; go_size)))))) (ht2.below (by (repeat' (first | (with_reducible exact Below.refl _ _) | (with_reducible assumption) | (with_reducible refine Below.alloc ?_ ?_ _) | (with_reducible refine Below.drew ?_) | (with_reducible refine below_drewN ?_ _) | (with_reducible refine Below.setCell ?_ ?_ _) | (with_reducible refine Below.trans ?_ (Below.mono (by assumption) ?_)) | (first | go_size | (with_reducible exact Below.size (by assumption)) | (with_reducible exact Nat.le_trans (Below.size (by assumption)) (Below.size (by assumption))) | (refine Nat.le_trans (Below.size (by assumption)) ?_; go_size))))))).mono ?_; rintro e w' ⟨rfl, hg⟩))
                go_ret
                exact ⟨rfl, by (repeat' (first | (with_reducible exact Below.refl _ _) | (with_reducible assumption) | (with_reducible refine Below.alloc ?_ ?_ _) | (with_reducible refine Below.drew ?_) | (with_reducible refine below_drewN ?_ _) | (with_reducible refine Below.setCell ?_ ?_ _) | (with_reducible refine Below.trans ?_ (Below.mono (by assumption) ?_)) | (first | go_size | (with_reducible exact Below.size (by assumption)) | (with_reducible exact Nat.le_trans (Below.size (by assumption)) (Below.size (by assumption))) | (refine Nat.le_trans (Below.size (by assumption)) ?_; go_size))))⟩
            · have z1 : ((n : Int) == 0) = true := by rw [beq_iff_eq]; omega
              have z2 : (g == 0) = true := by rw [beq_iff_eq]; omega
              have z3 : decide (0 < (n2 : Int)) = true := decide_eq_true (by omega)
              have hgf : vB (xs2.getD 0 0) = true → k ≠ 0 := fun hv => by
                have hx : xs = [] := List.length_eq_zero_iff.1 (by rw [HL.out]; exact hn0)
                cases xs2 with
                | nil => have := HL2.out; simp at this; omega
                | cons m r => have := grants_first m r hv; rw [← HK.out, hx, hg0]; exact this
              have hgy : xs2.getD 0 0 = xs2[0]'(by rw [HL2.out]; exact hn20) := by simp [List.getD, List.getElem?_eq_getElem (show 0 < xs2.length by rw [HL2.out]; exact hn20)]
              rw [hgy] at hgf
              obtain ⟨bY, oY, eY, _, hcy⟩ := hqr.at (j := 0) (by simp [ints]; rw [HL2.out]; exact hn20)
              simp only [ints, List.getElem_map, Nat.add_zero] at hcy
              generalize xs2[0]'(by rw [HL2.out]; exact hn20) = Y at hcy hgf
              have y1 : (0 : Int) < n2 := by omega
              obtain ⟨VY, hVY⟩ : ∃ v, vB Y = v := ⟨_, rfl⟩
              rw [hVY] at hgf
              have HGF := Lib.hid hgf
              clear hgy hgf hn0 hg0 hn20
              have hval := fun W => valid_any Y W
              rw [hVY] at hval
              cases eY
              cases VY
              · go_wp2_with (first | (go_at_call 14; refine (known_ok _ (ht.below (by (repeat' (first | (with_reducible exact Below.refl _ _) | (with_reducible assumption) | (with_reducible refine Below.alloc ?_ ?_ _) | (with_reducible refine Below.drew ?_) | (with_reducible refine below_drewN ?_ _) | (with_reducible refine Below.setCell ?_ ?_ _) | (with_reducible refine Below.trans ?_ (Below.mono (by assumption) ?_)) | (first | go_size | (with_reducible exact Below.size (by assumption)) | (with_reducible exact Nat.le_trans (Below.size (by assumption)) (Below.size (by assumption))) | (refine Nat.le_trans (Below.size (by assumption)) ?_; go_size)))))) (ht2.below (by (repeat' (first | (with_reducible exact Below.refl _ _) | (with_reducible assumption) | (with_reducible refine Below.alloc ?_ ?_ _) | (with_reducible refine Below.drew ?_) | (with_reducible refine below_drewN ?_ _) | (with_reducible refine Below.setCell ?_ ?_ _) | (with_reducible refine Below.trans ?_ (Below.mono (by assumption) ?_)) | (first | go_size | (with_reducible exact Below.size (by assumption)) | (with_reducible exact Nat.le_trans (Below.size (by assumption)) (Below.size (by assumption))) | (refine Nat.le_trans (Below.size (by assumption)) ?_; go_size))))))).mono ?_; rintro e w' ⟨rfl, hg⟩) | (go_at_call 9; (with_reducible refine (hval _).mono ?_); rintro e w' ⟨rfl, rfl⟩))
                go_ret
                exact ⟨rfl, by (repeat' (first | (with_reducible exact Below.refl _ _) | (with_reducible assumption) | (with_reducible refine Below.alloc ?_ ?_ _) | (with_reducible refine Below.drew ?_) | (with_reducible refine below_drewN ?_ _) | (with_reducible refine Below.setCell ?_ ?_ _) | (with_reducible refine Below.trans ?_ (Below.mono (by assumption) ?_)) | (first | go_size | (with_reducible exact Below.size (by assumption)) | (with_reducible exact Nat.le_trans (Below.size (by assumption)) (Below.size (by assumption))) | (refine Nat.le_trans (Below.size (by assumption)) ?_; go_size))))⟩
              · have z4 : ((k : Int) == 0) = false := by have := HGF.out rfl; rw [beq_eq_false_iff_ne]; omega
                go_wp2_with (first | (go_at_call 14; refine (known_ok _ (ht.below (by (repeat' (first | (with_reducible exact Below.refl _ _) | (with_reducible assumption) | (with_reducible refine Below.alloc ?_ ?_ _) | (with_reducible refine Below.drew ?_) | (with_reducible refine below_drewN ?_ _) | (with_reducible refine Below.setCell ?_ ?_ _) | (with_reducible refine Below.trans ?_ (Below.mono (by assumption) ?_)) | (first | go_size | (with_reducible exact Below.size (by assumption)) | (with_reducible exact Nat.le_trans (Below.size (by assumption)) (Below.size (by assumption))) | (refine Nat.le_trans (Below.size (by assumption)) ?_; go_size)))))) (ht2.below (by (repeat' (first | (with_reducible exact Below.refl _ _) | (with_reducible assumption) | (with_reducible refine Below.alloc ?_ ?_ _) | (with_reducible refine Below.drew ?_) | (with_reducible refine below_drewN ?_ _) | (with_reducible refine Below.setCell ?_ ?_ _) | (with_reducible refine Below.trans ?_ (Below.mono (by assumption) ?_)) | (first | go_size | (with_reducible exact Below.size (by assumption)) | (with_reducible exact Nat.le_trans (Below.size (by assumption)) (Below.size (by assumption))) | (refine Nat.le_trans (Below.size (by assumption)) ?_; go_size))))))).mono ?_; rintro e w' ⟨rfl, hg⟩) | (go_at_call 9; (with_reducible refine (hval _).mono ?_); rintro e w' ⟨rfl, rfl⟩))
                go_ret
                exact ⟨rfl, by (repeat' (first | (with_reducible exact Below.refl _ _) | (with_reducible assumption) | (with_reducible refine Below.alloc ?_ ?_ _) | (with_reducible refine Below.drew ?_) | (with_reducible refine below_drewN ?_ _) | (with_reducible refine Below.setCell ?_ ?_ _) | (with_reducible refine Below.trans ?_ (Below.mono (by assumption) ?_)) | (first | go_size | (with_reducible exact Below.size (by assumption)) | (with_reducible exact Nat.le_trans (Below.size (by assumption)) (Below.size (by assumption))) | (refine Nat.le_trans (Below.size (by assumption)) ?_; go_size))))⟩
        · have i6 : ¬ ((k : Int) < n2) := by omega
          have hqr : Rd (fun _ => True) wr _ (ints xs2) := hrb4.mono (fun _ _ _ => trivial)
          obtain hzz | ⟨hn0, hg0, hn20⟩ : (n ≠ 0 ∨ g ≠ 0 ∨ n2 = 0) ∨ (n = 0 ∧ g = 0 ∧ 0 < n2) := by omega
          · have z1 : ((n : Int) == 0) = decide (n = 0) := by rw [Bool.eq_iff_iff, beq_iff_eq, decide_eq_true_iff]; omega
            have z2 : (g == 0) = decide (g = 0) := by rw [Bool.eq_iff_iff, beq_iff_eq, decide_eq_true_iff]
            have z3 : decide (0 < (n2 : Int)) = decide (0 < n2) := by rw [decide_eq_decide]; omega
            by_cases hn0 : n = 0
            · rw [decide_eq_true hn0] at z1
              by_cases hg0 : g = 0
              · rw [decide_eq_true hg0] at z2
                obtain rfl : k = 0 := by omega
                have hq0 : n2 = 0 := by omega
                clear hn0 hg0 z3 hzz
                subst hq0
                go_wp2_with (first | (go_at_call 14; refine (known_ok _ (ht.below (by (repeat' (first | (with_reducible exact Below.refl _ _) | (with_reducible assumption) | (with_reducible refine Below.alloc ?_ ?_ _) | (with_reducible refine Below.drew ?_) | (with_reducible refine below_drewN ?_ _) | (with_reducible refine Below.setCell ?_ ?_ _) | (with_reducible refine Below.trans ?_ (Below.mono (by assumption) ?_)) | (first | go_size | (with_reducible exact Below.size (by assumption)) | (with_reducible exact Nat.le_trans (Below.size (by assumption)) (Below.size (by assumption))) | (refine Nat.le_trans (Below.size (by assumption)) ?_; go_size)))))) (ht2.below (by (repeat' (first | (with_reducible exact Below.refl _ _) | (with_reducible assumption) | (with_reducible refine Below.alloc ?_ ?_ _) | (with_reducible refine Below.drew ?_) | (with_reducible refine below_drewN ?_ _) | (with_reducible refine Below.setCell ?_ ?_ _) | (with_reducible refine Below.trans ?_ (Below.mono (by assumption) ?_)) | (first | go_size | (with_reducible exact Below.size (by assumption)) | (with_reducible exact Nat.le_trans (Below.size (by assumption)) (Below.size (by assumption))) | (refine Nat.le_trans (Below.size (by assumption)) ?_; go_size))))))).mono ?_; rintro e w' ⟨rfl, hg⟩))
                go_ret
                exact ⟨rfl, by (repeat' (first | (with_reducible exact Below.refl _ _) | (with_reducible assumption) | (with_reducible refine Below.alloc ?_ ?_ _) | (with_reducible refine Below.drew ?_) | (with_reducible refine below_drewN ?_ _) | (with_reducible refine Below.setCell ?_ ?_ _) | (with_reducible refine Below.trans ?_ (Below.mono (by assumption) ?_)) | (first | go_size | (with_reducible exact Below.size (by assumption)) | (with_reducible exact Nat.le_trans (Below.size (by assumption)) (Below.size (by assumption))) | (refine Nat.le_trans (Below.size (by assumption)) ?_; go_size))))⟩
              · rw [decide_eq_false hg0] at z2
                clear hn0 hg0 hzz z3
                go_wp2_with (first | (go_at_call 14; refine (known_ok _ (ht.below (by (repeat' (first | (with_reducible exact Below.refl _ _) | (with_reducible assumption) | (with_reducible refine Below.alloc ?_ ?_ _) | (with_reducible refine Below.drew ?_) | (with_reducible refine below_drewN ?_ _) | (with_reducible refine Below.setCell ?_ ?_ _) | (with_reducible refine Below.trans ?_ (Below.mono (by assumption) ?_)) | (first | go_size | (with_reducible exact Below.size (by assumption)) | (with_reducible exact Nat.le_trans (Below.size (by assumption)) (Below.size (by assumption))) | (refine Nat.le_trans (Below.size (by assumption)) ?_; go_size)))))) (ht2.below (by (repeat' (first | (with_reducible exact Below.refl _ _) | (with_reducible assumption) | (with_reducible refine Below.alloc ?_ ?_ _) | (with_reducible refine Below.drew ?_) | (with_reducible refine below_drewN ?_ _) | (with_reducible refine Below.setCell ?_ ?_ _) | (with_reducible refine Below.trans ?_ (Below.mono (by assumption) ?_)) | (first | go_size | (with_reducible exact Below.size (by assumption)) | (with_reducible exact Nat.le_trans (Below.size (by assumption)) (Below.size (by assumption))) | (refine Nat.le_trans (Below.size (by assumption)) ?_; go_size))))))).mono ?_; rintro e w' ⟨rfl, hg⟩))
                go_ret
                exact ⟨rfl, by (repeat' (first | (with_reducible exact Below.refl _ _) | (with_reducible assumption) | (with_reducible refine Below.alloc ?_ ?_ _) | (with_reducible refine Below.drew ?_) | (with_reducible refine below_drewN ?_ _) | (with_reducible refine Below.setCell ?_ ?_ _) | (with_reducible refine Below.trans ?_ (Below.mono (by assumption) ?_)) | (first | go_size | (with_reducible exact Below.size (by assumption)) | (with_reducible exact Nat.le_trans (Below.size (by assumption)) (Below.size (by assumption))) | (refine Nat.le_trans (Below.size (by assumption)) ?_; go_size))))⟩
            · rw [decide_eq_false hn0] at z1
              clear hn0 hzz z2 z3
              go_wp2_with (first | (go_at_call 14; refine (known_ok _ (ht.below (by (repeat' (first | (with_reducible exact Below.refl _ _) | (with_reducible assumption) | (with_reducible refine Below.alloc ?_ ?_ _) | (with_reducible refine Below.drew ?_) | (with_reducible refine below_drewN ?_ _) | (with_reducible refine Below.setCell ?_ ?_ _) | (with_reducible refine Below.trans ?_ (Below.mono (by assumption) ?_)) | (first | go_size | (with_reducible exact Below.size (by assumption)) | (with_reducible exact Nat.le_trans (Below.size (by assumption)) (Below.size (by assumption))) | (refine Nat.le_trans (Below.size (by assumption)) ?_; go_size)))))) (ht2.below (by (repeat' (first | (with_reducible exact Below.refl _ _) | (with_reducible assumption) | (with_reducible refine Below.alloc ?_ ?_ _) | (with_reducible refine Below.drew ?_) | (with_reducible refine below_drewN ?_ _) | (with_reducible refine Below.setCell ?_ ?_ _) | (with_reducible refine Below.trans ?_ (Below.mono (by assumption) ?_)) | (first | go_size | (with_reducible exact Below.size (by assumption)) | (with_reducible exact Nat.le_trans (Below.size (by assumption)) (Below.size (by assumption))) | (refine Nat.le_trans (Below.size (by assumption)) ?_; go_size))))))).mono ?_; rintro e w' ⟨rfl, hg⟩))
              go_ret
              exact ⟨rfl, by (repeat' (first | (with_reducible exact Below.refl _ _) | (with_reducible assumption) | (with_reducible refine Below.alloc ?_ ?_ _) | (with_reducible refine Below.drew ?_) | (with_reducible refine below_drewN ?_ _) | (with_reducible refine Below.setCell ?_ ?_ _) | (with_reducible refine Below.trans ?_ (Below.mono (by assumption) ?_)) | (first | go_size | (with_reducible exact Below.size (by assumption)) | (with_reducible exact Nat.le_trans (Below.size (by assumption)) (Below.size (by assumption))) | (refine Nat.le_trans (Below.size (by assumption)) ?_; go_size))))⟩
          · have z1 : ((n : Int) == 0) = true := by rw [beq_iff_eq]; omega
            have z2 : (g == 0) = true := by rw [beq_iff_eq]; omega
            have z3 : decide (0 < (n2 : Int)) = true := decide_eq_true (by omega)
            have hgf : vB (xs2.getD 0 0) = true → k ≠ 0 := fun hv => by
              have hx : xs = [] := List.length_eq_zero_iff.1 (by rw [HL.out]; exact hn0)
              cases xs2 with
              | nil => have := HL2.out; simp at this; omega
              | cons m r => have := grants_first m r hv; rw [← HK.out, hx, hg0]; exact this
            have hgy : xs2.getD 0 0 = xs2[0]'(by rw [HL2.out]; exact hn20) := by simp [List.getD, List.getElem?_eq_getElem (show 0 < xs2.length by rw [HL2.out]; exact hn20)]
            rw [hgy] at hgf
            obtain ⟨bY, oY, eY, _, hcy⟩ := hqr.at (j := 0) (by simp [ints]; rw [HL2.out]; exact hn20)
            simp only [ints, List.getElem_map, Nat.add_zero] at hcy
            generalize xs2[0]'(by rw [HL2.out]; exact hn20) = Y at hcy hgf
            have y1 : (0 : Int) < n2 := by omega
            obtain ⟨VY, hVY⟩ : ∃ v, vB Y = v := ⟨_, rfl⟩
            rw [hVY] at hgf
            have HGF := Lib.hid hgf
            clear hgy hgf hn0 hg0 hn20
            have hval := fun W => valid_any Y W
            rw [hVY] at hval
            cases eY
            cases VY
            · go_wp2_with (first | (go_at_call 14; refine (known_ok _ (ht.below (by (repeat' (first | (with_reducible exact Below.refl _ _) | (with_reducible assumption) | (with_reducible refine Below.alloc ?_ ?_ _) | (with_reducible refine Below.drew ?_) | (with_reducible refine below_drewN ?_ _) | (with_reducible refine Below.setCell ?_ ?_ _) | (with_reducible refine Below.trans ?_ (Below.mono (by assumption) ?_)) | (first | go_size | (with_reducible exact Below.size (by assumption)) | (with_reducible exact Nat.le_trans (Below.size (by assumption)) (Below.size (by assumption))) | (refine Nat.le_trans (Below.size (by assumption)) ?_; go_size)))))) (ht2.below (by (repeat' (first | (with_reducible exact Below.refl _ _) | (with_reducible assumption) | (with_reducible refine Below.alloc ?_ ?_ _) | (with_reducible refine Below.drew ?_) | (with_reducible refine below_drewN ?_ _) | (with_reducible refine Below.setCell ?_ ?_ _) | (with_reducible refine Below.trans ?_ (Below.mono (by assumption) ?_)) | (first | go_size | (with_reducible exact Below.size (by assumption)) | (with_reducible exact Nat.le_trans (Below.size (by assumption)) (Below.size (by assumption))) | (refine Nat.le_trans (Below.size (by assumption)) ?_; go_size))))))).mono ?_; rintro e w' ⟨rfl, hg⟩) | (go_at_call 9; (with_reducible refine (hval _).mono ?_); rintro e w' ⟨rfl, rfl⟩))
              go_ret
              exact ⟨rfl, by (repeat' (first | (with_reducible exact Below.refl _ _) | (with_reducible assumption) | (with_reducible refine Below.alloc ?_ ?_ _) | (with_reducible refine Below.drew ?_) | (with_reducible refine below_drewN ?_ _) | (with_reducible refine Below.setCell ?_ ?_ _) | (with_reducible refine Below.trans ?_ (Below.mono (by assumption) ?_)) | (first | go_size | (with_reducible exact Below.size (by assumption)) | (with_reducible exact Nat.le_trans (Below.size (by assumption)) (Below.size (by assumption))) | (refine Nat.le_trans (Below.size (by assumption)) ?_; go_size))))⟩
            · have z4 : ((k : Int) == 0) = false := by have := HGF.out rfl; rw [beq_eq_false_iff_ne]; omega
              go_wp2_with (first | (go_at_call 14; refine (known_ok _ (ht.below (by (repeat' (first | (with_reducible exact Below.refl _ _) | (with_reducible assumption) | (with_reducible refine Below.alloc ?_ ?_ _) | (with_reducible refine Below.drew ?_) | (with_reducible refine below_drewN ?_ _) | (with_reducible refine Below.setCell ?_ ?_ _) | (with_reducible refine Below.trans ?_ (Below.mono (by assumption) ?_)) | (first | go_size | (with_reducible exact Below.size (by assumption)) | (with_reducible exact Nat.le_trans (Below.size (by assumption)) (Below.size (by assumption))) | (refine Nat.le_trans (Below.size (by assumption)) ?_; go_size)))))) (ht2.below (by (repeat' (first | (with_reducible exact Below.refl _ _) | (with_reducible assumption) | (with_reducible refine Below.alloc ?_ ?_ _) | (with_reducible refine Below.drew ?_) | (with_reducible refine below_drewN ?_ _) | (with_reducible refine Below.setCell ?_ ?_ _) | (with_reducible refine Below.trans ?_ (Below.mono (by assumption) ?_)) | (first | go_size | (with_reducible exact Below.size (by assumption)) | (with_reducible exact Nat.le_trans (Below.size (by assumption)) (Below.size (by assumption))) | (refine Nat.le_trans (Below.size (by assumption)) ?_; go_size))))))).mono ?_; rintro e w' ⟨rfl, hg⟩) | (go_at_call 9; (with_reducible refine (hval _).mono ?_); rintro e w' ⟨rfl, rfl⟩))
              go_ret
              exact ⟨rfl, by (repeat' (first | (with_reducible exact Below.refl _ _) | (with_reducible assumption) | (with_reducible refine Below.alloc ?_ ?_ _) | (with_reducible refine Below.drew ?_) | (with_reducible refine below_drewN ?_ _) | (with_reducible refine Below.setCell ?_ ?_ _) | (with_reducible refine Below.trans ?_ (Below.mono (by assumption) ?_)) | (first | go_size | (with_reducible exact Below.size (by assumption)) | (with_reducible exact Nat.le_trans (Below.size (by assumption)) (Below.size (by assumption))) | (refine Nat.le_trans (Below.size (by assumption)) ?_; go_size))))⟩
end ModesHolds
end Go.Proofs.YtcnbjpbohhfmoaaDoor
