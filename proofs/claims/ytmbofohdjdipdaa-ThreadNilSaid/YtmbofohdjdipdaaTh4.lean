/-
  Contracts of package thread: which instructions are allowed; new codes.
-/
import Derived.Test.YtmbofohdjdipdaaTh3
namespace Go.Proofs.Ytmbofohdjdipdaa
open Go.RowKit

def okB (many : Int) (x : Ins) : Bool := decide (okIns many x)
set_option maxRecDepth 100000 in
set_option maxHeartbeats 2000000 in
theorem allowed_any (x : Ins) (many : Int) (w : World) :
    Calls Try.prog 71 #[insA x, .int .i64 many] w fun e w' => e = .returned (.bool (okB many x)) ∧ Below w.heap.size w w' := by
  obtain ⟨k, R, W, V⟩ := x
  obtain ⟨q, hq⟩ : ∃ q, q = okB many ⟨k, R, W, V⟩ := ⟨_, rfl⟩
  rw [← hq]
  have HQ := Lib.hid hq
  clear hq
  go_enter Try.func71, Try.ntmps71
  go_wp2
  all_goals (go_ret; refine ⟨ret_bool ?_, by (repeat' (first | (with_reducible exact Below.refl _ _) | (with_reducible assumption) | (with_reducible refine Below.alloc ?_ ?_ _) | (with_reducible refine Below.drew ?_) | (with_reducible refine below_drewN ?_ _) | (with_reducible refine Below.setCell ?_ ?_ _) | (with_reducible refine Below.trans ?_ (Below.mono (by assumption) ?_)) | (first | go_size | (with_reducible exact Below.size (by assumption)) | (with_reducible exact Nat.le_trans (Below.size (by assumption)) (Below.size (by assumption))) | (refine Nat.le_trans (Below.size (by assumption)) ?_; go_size))))⟩)
  all_goals (rw [HQ.out, okB, eq_comm, Bool.eq_iff_iff, decide_eq_true_iff]; unfold okIns regOk wordOk; dsimp only)
  all_goals (clear HQ; (try simp only [beq_eq_false_iff_ne, beq_iff_eq, ne_eq, Bool.and_eq_true, Bool.or_eq_true, decide_eq_true_eq, Bool.false_eq_true, iff_false, iff_true] at *))
  all_goals omega

/-! ### a list of instructions that is allowed -/
def okAll (l : List Ins) : Bool := l.all (okB l.length)
theorem okAll_iff (l : List Ins) : okAll l = true ↔ ∀ x ∈ l, okIns l.length x := by
  unfold okAll okB
  simp
theorem rd_ins {G : Nat → Prop} {w : World} {A : Option Addr} {l : List Ins} (h : Rd G w A (insVs l)) {k : Nat} {x : Ins} (hk : l[k]? = some x) :
    ∃ b o, A = some ⟨b, o, none⟩ ∧ G b ∧ b < w.heap.size ∧ w.cell? ⟨b, o + k * 4, none⟩ = some (.int .i64 x.k) ∧ w.cell? ⟨b, o + k * 4 + 1, none⟩ = some (.int .i64 x.r) ∧ w.cell? ⟨b, o + k * 4 + 2, none⟩ = some (.int .i64 x.w) ∧ w.cell? ⟨b, o + k * 4 + 3, none⟩ = some (.int .u64 x.v) := by
  have key := insVs_at l k x hk
  obtain ⟨b, o, e, hg, hl, hv⟩ := h (by intro e; have := key 0 (by omega); rw [e] at this; simp [insV] at this)
  refine ⟨b, o, e, hg, hl, hv _ _ (key 0 (by omega)), ?_, ?_, ?_⟩
  · rw [Nat.add_assoc]; exact hv _ _ (key 1 (by omega))
  · rw [Nat.add_assoc]; exact hv _ _ (key 2 (by omega))
  · rw [Nat.add_assoc]; exact hv _ _ (key 3 (by omega))
abbrev codeLit (g : Nat) : Value := .func (.func 70) #[] #[.pointer (some ⟨g, 0, none⟩)]
theorem lit_any (x : Ins) (g n c : Nat) (A : Option Addr) (w : World) (hg : w.cell? ⟨g, 0, none⟩ = some (.slice A n c)) :
    Calls Try.prog 70 #[insA x, .pointer (some ⟨g, 0, none⟩)] w fun e w' => e = .returned (.bool (!okB n x)) ∧ Below w.heap.size w w' := by
  have hl := World.block_lt_of_cell? _ _ hg
  have hall := fun W => allowed_any x n W
  generalize okB n x = q at hall ⊢
  go_enter Try.func70, Try.ntmps70
  go_wp2_with (go_at_call 71; refine (hall _).mono ?_; rintro e w1 ⟨rfl, hb⟩)
  go_ret
  exact ⟨rfl, by (repeat' (first | (with_reducible exact Below.refl _ _) | (with_reducible assumption) | (with_reducible refine Below.alloc ?_ ?_ _) | (with_reducible refine Below.drew ?_) | (with_reducible refine below_drewN ?_ _) | (with_reducible refine Below.setCell ?_ ?_ _) | (with_reducible refine Below.trans ?_ (Below.mono (by assumption) ?_)) | (first | go_size | (with_reducible exact Below.size (by assumption)) | (with_reducible exact Nat.le_trans (Below.size (by assumption)) (Below.size (by assumption))) | (refine Nat.le_trans (Below.size (by assumption)) ?_; go_size))))⟩
theorem all_snoc {α : Type} (p : α → Bool) (l : List α) (k : Nat) (x : α) (hx : l[k]? = some x) (h : (l.take k).all p = true) (hp : p x = true) : (l.take (k + 1)).all p = true := by
  rw [List.take_add_one, hx]
  simp only [Option.toList_some, List.all_append, h, List.all_cons, hp, List.all_nil, Bool.and_self]
theorem all_bad {α : Type} (p : α → Bool) (l : List α) (k : Nat) (x : α) (hx : l[k]? = some x) (hp : p x = false) : l.all p = false := by
  rw [List.all_eq_false]
  exact ⟨x, List.mem_of_getElem? hx, by simp [hp]⟩
theorem index_ins (l : List Ins) (A : Option Addr) (g n c : Nat) (w : World) (hr : Rd (fun b => b < w.heap.size) w A (insVs l)) (hl : l.length = n) (hn : n ≤ 1000000) (hg : w.cell? ⟨g, 0, none⟩ = some (.slice A n c)) :
    Calls Try.prog 83 #[.slice A n c, codeLit g] w fun e w' => Below w.heap.size w w' ∧ ∃ i : Int, e = .returned (.int .i64 i) ∧ (decide (0 ≤ i)) = !okAll l := by
  subst hl
  have hlt := World.block_lt_of_cell? _ _ hg
  go_enter Try.func83, Try.ntmps83
  go_wp2_with fail
  go_loopw [8] (fun v wr => ∃ k : Nat, k ≤ l.length ∧ v = .int .i64 k ∧ (l.take k).all (okB l.length) = true ∧ Below w.heap.size w wr) (fun v _ => l.length - (intOf v).toNat)
  case atStart => exact ⟨0, Nat.zero_le _, rfl, by simp, Below.refl _ _⟩
  case round =>
    obtain ⟨k, hk, rfl, hall, hb⟩ := hrel
    have HALL := Lib.hid hall
    clear hall
    by_cases hlt2 : k < l.length
    · obtain ⟨x, hx⟩ : ∃ d, l[k]? = some d := ⟨_, List.getElem?_eq_getElem hlt2⟩
      obtain ⟨b0, o, rfl, _, hbl, c0, c1, c2, c3⟩ := rd_ins (hr.keep (Ch.of_below hb (fun _ => False)) (fun _ _ _ e => e)) hx
      have hgr := (Ch.of_below hb (fun _ => False)).keeps hg (fun e => e)
      have hcall := lit_any x g l.length c _ wr hgr
      have HX := Lib.hid hx
      have i1 : (0 : Int) ≤ k := Int.natCast_nonneg _
      have i2 : (k : Int) < l.length := by omega
      cases hq : okB l.length x
      · have HB := Lib.hid (all_bad _ l k x hx hq)
        rw [hq] at hcall
        clear hq hx hr hg hgr
        obtain ⟨xk, xr, xw, xv⟩ := x
        dsimp only at c0 c1 c2 c3
        go_wp2_with fail
        refine hcall.mono ?_
        rintro e w5 ⟨rfl, hb5⟩
        go_wp2_with fail
        go_ret
        exact ⟨hb.trans (hb5.mono hb.size), k, rfl, by rw [decide_eq_true i1]; show true = !okAll l; unfold okAll; rw [HB.out]; rfl⟩
      · have HB := Lib.hid (all_snoc _ l k x hx HALL.out hq)
        rw [hq] at hcall
        clear hq hx hr hg hgr
        obtain ⟨xk, xr, xw, xv⟩ := x
        dsimp only at c0 c1 c2 c3
        go_wp2_with fail
        refine hcall.mono ?_
        rintro e w5 ⟨rfl, hb5⟩
        go_wp2_with fail
        go_roundw
        case rel => exact ⟨k + 1, by omega, by go_num, HB.out, hb.trans (hb5.mono hb.size)⟩
        case measure => simp [intOf]; omega
    · obtain rfl : k = l.length := by omega
      have h1 := HALL.out
      rw [List.take_length] at h1
      have H1 := Lib.hid h1
      clear h1 HALL
      go_wp2
      go_ret
      exact ⟨hb, -1, rfl, by unfold okAll; rw [H1.out]; rfl⟩
theorem insInfo : (Try.prog.info? 70).map (fun i => (i.zero, i.size, i.bytes)) = some (some (.agg #[.int .i64 0, .int .i64 0, .int .i64 0, .int .u64 0]), 4, 32) := by kernel_rfl
theorem insVs_one (l : List Ins) : ∀ v ∈ insVs l, v.oneCell' = true := by
  intro v hv
  unfold insVs at hv
  rw [List.mem_flatMap] at hv
  obtain ⟨x, _, hv⟩ := hv
  simp only [insV, List.mem_cons, List.not_mem_nil, or_false] at hv
  rcases hv with rfl | rfl | rfl | rfl <;> rfl
theorem clone_ins (a : Addr) (l : List Ins) (n c : Nat) (w : World) (hr : Rd (fun b => b < w.heap.size) w (some a) (insVs l)) (hl : l.length = n) (hn : n ≤ 1000000) :
    Calls Try.prog 72 #[.slice (some a) n c] w fun e w' => Below w.heap.size w w' ∧ ∃ v, e = .returned v ∧ w'.ownsRow w.heap.size 70 4 v n (insVs l) := by
  subst hl
  obtain ⟨i0, hi0, hz0, hz1, hz2⟩ := info_parts insInfo
  have hnil := fun W => Lib.run_eql_slice_nil (P := Try.prog) W 64 70 (some a) l.length c 0 0 Try.underlying64
  simp only [Option.isNone_some] at hnil
  go_enter Try.func72, Try.ntmps72
  go_wp2_with (at_builtin; refine wpList_append_rd _ rfl _ _ _ rfl (w.heap.size) 70 i0 _ 4 32 Try.underlying64 hi0 hz0 hz1 hz2 rfl (by omega) _ 0 [] rfl (own_new _ _ _) (some a) l.length c (insVs l) rfl (hr.keep (Ch.of_below ((Below.refl _ _).alloc (Nat.le_refl _) _) (fun _ => False)) (fun _ _ _ e => e)) (fun h => by cases h) (insVs_len l) (insVs_one l) (by unfold maxLen; omega) (by omega) (by simp) ?_)
  intro v w1 hown hch hat
  go_wp2_with fail
  go_ret
  refine ⟨((Below.refl w.heap.size w).alloc (Nat.le_refl _) _).trans (hch.below (fun j _ e => ?_) (by simp)), v, rfl, hown⟩
  simp [Value.ownBlock] at e
  omega
end Go.Proofs.Ytmbofohdjdipdaa
