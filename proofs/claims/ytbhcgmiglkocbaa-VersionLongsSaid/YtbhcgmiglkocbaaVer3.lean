/-
  Contracts of package version: any step of a reader; a writer that is made.
-/
import Derived.Test.YtbhcgmiglkocbaaVer2
namespace Go.Proofs.Ytbhcgmiglkocbaa
open Go.RowKit

def rstp (v f n : Int) (s : Rs) (ws : List Int) : RO :=
  if s.ed = true then ⟨s, false, 17⟩ else if doE ws 1 (rAt v f n s) ≠ 0 then ⟨s, false, doE ws 1 (rAt v f n s)⟩ else rGo n s (doB ws 1 (rAt v f n s))
theorem rs_end (B r : Nat) (v f n : Int) (s : Rs) (lv : Value) (b g c : Nat) (ws : List Int) (w : World) (h : RdAt B w r v f n s lv) (hm : MemAt w b g c ws) (hed : s.ed = true) :
    Calls Try.prog 25 #[.pointer (some ⟨r, 0, none⟩), memI b] w (RdP B w r v f n b g c ws ⟨s, false, 17⟩ lv) := by
  have c0 : w.cell? ⟨r, 0, none⟩ = some (.bool true) := h.hd.cell 0
  have c9 : w.cell? ⟨r, 9, none⟩ = some (.bool s.ed) := h.hd.cell 9
  rw [hed] at c9
  clear hed
  have H := Lib.hid h
  have HM := Lib.hid hm
  clear h hm
  go_enter Try.func25, Try.ntmps25
  go_wp2_with fail
  go_ret2
  exact ⟨_, rfl, H.out, HM.out, Ch.refl _ _, .inl rfl⟩
theorem rstep_any (B r : Nat) (v f n : Int) (s : Rs) (lv : Value) (b g c : Nat) (ws : List Int) (w : World) (h : RdAt B w r v f n s lv) (hm : MemAt w b g c ws) (hg : lv.ownBlock ≠ some g) :
    Calls Try.prog 25 #[.pointer (some ⟨r, 0, none⟩), memI b] w (RdP B w r v f n b g c ws (rstp v f n s ws) lv) := by
  unfold rstp
  by_cases he : s.ed = true
  · rw [if_pos he]
    exact rs_end B r v f n s lv b g c ws w h hm he
  rw [if_neg he]
  have hed : s.ed = false := by simpa using he
  by_cases hlk : s.lk = true
  · by_cases hlt : (s.l.length : Int) < n
    · have ha : rAt v f n s = f + (s.l.length : Int) := by unfold rAt; rw [if_pos ⟨hlk, hlt⟩]
      rw [ha]
      by_cases hE : doE ws 1 (f + (s.l.length : Int)) = 0
      · rw [if_neg (by simpa using hE)]
        have := rs_read B r v f n s lv b g c ws w h hm hg hed hlk hlt hE
        unfold rGo
        rwa [if_neg (by rw [hlk]; simp), if_pos hlt]
      · rw [if_pos hE]
        exact rs_errB B r v f n s lv b g c ws w h hm hg hed hlk hlt hE
    · have ha : rAt v f n s = v := by unfold rAt; rw [if_neg (fun h => hlt h.2)]
      rw [ha]
      by_cases hE : doE ws 1 v = 0
      · rw [if_neg (by simpa using hE)]
        unfold rGo
        rw [if_neg (by rw [hlk]; simp), if_neg hlt]
        by_cases hx : doB ws 1 v = s.fst
        · rw [if_pos hx]
          exact rs_right B r v f n s lv b g c ws w h hm hg hed hlk hlt hE hx
        · rw [if_neg hx]
          exact rs_wrong B r v f n s lv b g c ws w h hm hg hed hlk hlt hE hx
      · rw [if_pos hE]
        exact rs_errC B r v f n s lv b g c ws w h hm hg hed hlk hlt hE
  · have hlk : s.lk = false := by simpa using hlk
    have ha : rAt v f n s = v := by unfold rAt; rw [if_neg (fun h => by rw [hlk] at h; cases h.1)]
    rw [ha]
    by_cases hE : doE ws 1 v = 0
    · rw [if_neg (by simpa using hE)]
      unfold rGo
      rw [if_pos hlk]
      by_cases hx : doB ws 1 v % 2 = 1
      · rw [if_pos hx]
        exact rs_wait B r v f n s lv b g c ws w h hm hg hed hlk hE hx
      · rw [if_neg hx]
        exact rs_look B r v f n s lv b g c ws w h hm hg hed hlk hE (by omega)
    · rw [if_pos hE]
      exact rs_errA B r v f n s lv b g c ws w h hm hg hed hlk hE

/-! ### a writer -/
structure Ws where
  fst : Int
  st : Nat
  ed : Bool
def wrV (v f : Int) (A : Option Addr) (k c : Nat) (s : Ws) : List Value := [.bool true, .int .i64 v, .int .i64 f, .slice A k c, .int .u64 s.fst, .int .i64 s.st, .bool s.ed]
structure WrAt (B : Nat) (w : World) (r : Nat) (v f : Int) (A : Option Addr) (c : Nat) (xs : List Int) (s : Ws) : Prop where
  hd : Blk w r 55 (wrV v f A xs.length c s)
  rd : Rd (fun q => B ≤ q ∧ q < r) w A (u64s xs)
  cap : xs.length ≤ c
  capm : c ≤ 9223372036854775807
  wf : ∀ x ∈ xs, 0 ≤ x ∧ x ≤ 18446744073709551615
  ok : OkV v f xs.length
  st : s.st ≤ xs.length + 3
  fin : s.ed = false → s.st ≤ xs.length + 2
  f0 : 0 ≤ s.fst ∧ s.fst ≤ 18446744073709551615
section
variable {B r : Nat} {w w' : World} {v f : Int} {A : Option Addr} {c : Nat} {xs : List Int} {s : Ws}
theorem WrAt.keep {F : Nat → Prop} (h : WrAt B w r v f A c xs s) (hc : Ch F w w') (hr : ¬ F r) (hl : ∀ q, q < w.heap.size → B ≤ q → q < r → ¬ F q) : WrAt B w' r v f A c xs s :=
  { h with hd := h.hd.keep hc hr, rd := h.rd.keep hc (fun q h1 h2 => hl q h1 h2.1 h2.2) }
theorem WrAt.below (h : WrAt B w r v f A c xs s) (hb : Below w.heap.size w w') : WrAt B w' r v f A c xs s := h.keep (Ch.of_below hb (fun _ => False)) (fun e => e) (fun _ _ _ _ e => e)
end
def NewWrP (v f : Int) (xs : List Int) (w : World) (e : Ending) (w' : World) : Prop :=
  ∃ r A c, e = .returned (.tuple #[.pointer (some ⟨r, 0, none⟩), .int .i64 0]) ∧ WrAt w.heap.size w' r v f A c xs ⟨0, 0, false⟩ ∧ w.heap.size ≤ r ∧ Below w.heap.size w w'
theorem newwr_ok (v f : Int) (A : Option Addr) (xs : List Int) (k c : Nat) (w : World) (h : OkV v f xs.length) (hr : Rd (fun _ => True) w A (u64s xs)) (hl : xs.length = k) (hA : A = none → c = 0) (hwf : ∀ x ∈ xs, 0 ≤ x ∧ x ≤ 18446744073709551615) :
    Calls Try.prog 16 #[.int .i64 v, .int .i64 f, .slice A k c] w (NewWrP v f xs w) := by
  subst hl
  have hw := wrong_ok v f xs.length w h
  have hn := h.n1
  have hcl := clone_any A xs xs.length c w hr hA rfl (by omega)
  have hh := Lib.hid h
  have hwf2 := Lib.hid hwf
  clear h hwf
  go_enter Try.func16, Try.ntmps16
  go_wp2_with fail
  refine hw.mono ?_
  rintro e w' ⟨rfl, rfl⟩
  go_wp2_with fail
  refine hcl.mono ?_
  rintro e w1 ⟨v1, rfl, hv, hb⟩
  obtain ⟨A1, c1, rfl, hc1, _⟩ := own_slice hv
  have hr1 : Rd (fun q => w.heap.size ≤ q ∧ q < w1.heap.size) w1 A1 (u64s xs) := (Rd.of_own hv).mono (fun b hb h => ⟨h.1, hb⟩)
  have hcm : c1 ≤ 9223372036854775807 := by
    rcases hv.2 with ⟨e, _⟩ | ⟨g, cap, cur, e, _, _, _, h2, _⟩
    · injection e with _ _ e; omega
    · injection e with _ _ e; unfold maxLen at h2; omega
  clear hv hcl hw
  go_wp2_with fail
  go_ret2
  exact ⟨w1.heap.size, A1, c1, rfl, ⟨Blk.new w1 _ (wrV v f A1 xs.length c1 ⟨0, 0, false⟩), hr1.keep ((Ch.refl (fun _ => False) _).alloc _) (fun _ _ _ e => e), hc1, hcm, hwf2.out, hh.out, by show 0 ≤ _; omega, (fun _ => by show 0 ≤ _; omega), by show (0 : Int) ≤ 0 ∧ (0 : Int) ≤ 18446744073709551615; omega⟩, hb.size, by (repeat' (first | (with_reducible exact Below.refl _ _) | (with_reducible assumption) | (with_reducible refine Below.alloc ?_ ?_ _) | (with_reducible refine Below.drew ?_) | (with_reducible refine below_drewN ?_ _) | (with_reducible refine Below.setCell ?_ ?_ _) | (with_reducible refine Below.trans ?_ (Below.mono (by assumption) ?_)) | (first | go_size | (with_reducible exact Below.size (by assumption)) | (with_reducible exact Nat.le_trans (Below.size (by assumption)) (Below.size (by assumption))) | (refine Nat.le_trans (Below.size (by assumption)) ?_; go_size))))⟩
theorem newwr_bad (v f : Int) (A : Option Addr) (k c : Nat) (w : World) (h : ¬ OkV v f k) :
    Calls Try.prog 16 #[.int .i64 v, .int .i64 f, .slice A k c] w fun e w' => e = .returned (.tuple #[.pointer none, .int .i64 2]) ∧ w = w' := by
  have hw := wrong_bad v f k w h
  clear h
  go_enter Try.func16, Try.ntmps16
  go_wp2_with fail
  refine hw.mono ?_
  rintro e w' ⟨rfl, rfl⟩
  go_wp2_with fail
  go_ret2
  exact ⟨rfl, rfl⟩
section
variable (B r : Nat) (v f : Int) (A : Option Addr) (c : Nat) (xs : List Int) (s : Ws) (w : World) (h : WrAt B w r v f A c xs s)
include h
theorem wdone_any : Calls Try.prog 17 #[.pointer (some ⟨r, 0, none⟩)] w fun e w' => e = .returned (.bool s.ed) ∧ w = w' := by
  have c0 : w.cell? ⟨r, 0, none⟩ = some (.bool true) := h.hd.cell 0
  have c6 : w.cell? ⟨r, 6, none⟩ = some (.bool s.ed) := h.hd.cell 6
  clear h
  cases he : s.ed
  all_goals
    rw [he] at c6
    go_enter Try.func17, Try.ntmps17
    go_wp2
    go_ret
    exact ⟨rfl, rfl⟩
theorem wresult_any : Calls Try.prog 18 #[.pointer (some ⟨r, 0, none⟩)] w fun e w' => e = .returned (.int .u64 (if s.ed then 1 else 0)) ∧ w = w' := by
  have c6 : w.cell? ⟨r, 6, none⟩ = some (.bool s.ed) := h.hd.cell 6
  clear h
  cases he : s.ed
  all_goals
    rw [he] at c6
    go_enter Try.func18, Try.ntmps18
    go_wp2
    go_ret
    exact ⟨rfl, rfl⟩
end
end Go.Proofs.Ytbhcgmiglkocbaa
