/-
  An arena, a writer and a reader side by side, as the laws of layer 11 use them.
-/
import Derived.Test.YtbhcgmiglkocbaaVer5
namespace Go.Proofs.Ytbhcgmiglkocbaa
open Go.RowKit

structure KV (W w : World) (b g c : Nat) (ws : List Int) : Prop where
  mem : MemAt w b g c ws
  bW : W.heap.size ≤ b
  gW : W.heap.size ≤ g
  below : Below W.heap.size W w
structure KW (w : World) (g r B : Nat) (v f : Int) (A : Option Addr) (cl : Nat) (xs : List Int) (s : Ws) : Prop where
  p : WrAt B w r v f A cl xs s
  gB : g < B
  rB : B ≤ r
structure KR (w : World) (g r B : Nat) (v f n : Int) (s : Rs) (lv : Value) : Prop where
  p : RdAt B w r v f n s lv
  gB : g < B
  rB : B ≤ r
  ng : lv.ownBlock ≠ some g
section
variable {W w w' : World} {b g c r B r2 B2 cl : Nat} {ws ws' : List Int} {v f v2 f2 n : Int} {A : Option Addr} {xs : List Int} {s s' : Ws} {t t' : Rs} {lv : Value} {ys : List Value}
theorem KV.step (h : KV W w b g c ws) (hb : Below w.heap.size w w') : KV W w' b g c ws := ⟨h.mem.below hb, h.bW, h.gW, h.below.trans (hb.mono h.below.size)⟩
theorem KW.step (h : KW w g r B v f A cl xs s) (hb : Below w.heap.size w w') : KW w' g r B v f A cl xs s := ⟨h.p.below hb, h.gB, h.rB⟩
theorem KR.step (h : KR w g r B v f n t lv) (hb : Below w.heap.size w w') : KR w' g r B v f n t lv := ⟨h.p.below hb, h.gB, h.rB, h.ng⟩
theorem ownBlock_ge {base n j : Nat} {e : TypeId} {size : Nat} {v : Value} {xs : List Value} (h : w.ownsRow base e size v n xs) (hj : v.ownBlock = some j) : base ≤ j := by
  rcases h.2 with ⟨rfl, _⟩ | ⟨g', cap, cur, rfl, hb, _⟩
  · simp [Value.ownBlock] at hj
  · simp [Value.ownBlock] at hj; omega
/-- a writer's steps leave a reader as it is -/
theorem KR.other (h : KR w g r2 B2 v2 f2 n t lv) (hr : Blk w r 55 ys) (hc : Ch (fun j => j = r ∨ j = g) w w') : KR w' g r2 B2 v2 f2 n t lv :=
  ⟨h.p.keep hc (by rintro (e | e); exact Blk.ne h.p.hd hr (by decide) e; have h1 := h.gB; have h2 := h.rB; omega) (fun k hk => by
    rintro (e | e)
    · exact own_blk_ne h.p.own hr (by decide) (by rw [hk, e])
    · exact h.ng (by rw [hk, e])), h.gB, h.rB, h.ng⟩
/-- a reader's steps leave a writer as it is -/
theorem KW.other (h : KW w g r B v f A cl xs s) (hr : KR w g r2 B2 v2 f2 n t lv) (hrr : r < B2) (hc : Ch (fun j => j = r2 ∨ j = g ∨ lv.ownBlock = some j) w w') : KW w' g r B v f A cl xs s :=
  ⟨h.p.keep hc (by
    have h1 := h.gB
    have h2 := h.rB
    rintro (e | e | e)
    · exact Blk.ne h.p.hd hr.p.hd (by decide) e
    · omega
    · exact own_blk_ne hr.p.own h.p.hd (by decide) e) (fun q _ q1 q2 => by
    have h1 := h.gB
    have h2 := hr.rB
    rintro (e | e | e)
    · omega
    · omega
    · have := ownBlock_ge hr.p.own e; omega), h.gB, h.rB⟩
theorem KV.ofW (h : KV W w b g c ws) (hrW : W.heap.size ≤ r) (hm : MemAt w' b g c ws') (hc : Ch (fun j => j = r ∨ j = g) w w') : KV W w' b g c ws' :=
  ⟨hm, h.bW, h.gW, h.below.trans (hc.below (fun j _ e => by rcases e with e | e; omega; have := h.gW; omega) h.below.size)⟩
theorem KV.ofR (h : KV W w b g c ws) (hr : KR w g r2 B2 v2 f2 n t lv) (hB : W.heap.size ≤ B2) (hm : MemAt w' b g c ws) (hc : Ch (fun j => j = r2 ∨ j = g ∨ lv.ownBlock = some j) w w') : KV W w' b g c ws :=
  ⟨hm, h.bW, h.gW, h.below.trans (hc.below (fun j _ e => by
    have h1 := h.gW
    have h2 := hr.rB
    rcases e with e | e | e
    · omega
    · omega
    · have := ownBlock_ge hr.p.own e; omega) h.below.size)⟩
end
def KP (W : World) (b g c : Nat) (ws : List Int) (r B : Nat) (v f : Int) (A : Option Addr) (cl : Nat) (xs : List Int) (s : Ws) (r2 B2 : Nat) (v2 f2 n : Int) (t : Rs) (w' : World) : Prop :=
  ∃ lv, KV W w' b g c ws ∧ KW w' g r B v f A cl xs s ∧ KR w' g r2 B2 v2 f2 n t lv
section
variable {W w : World} {b g c r B r2 B2 cl : Nat} {ws ws' : List Int} {v f v2 f2 n : Int} {A : Option Addr} {xs : List Int} {s s' : Ws} {t t' : Rs} {lv : Value}
theorem KP.wends (h : KP W b g c ws r B v f A cl xs s r2 B2 v2 f2 n t w) (hBW : W.heap.size ≤ B) (k : Nat) (k' : Int) (ek : k' = k) (hk : 1 ≤ k) (hk2 : k ≤ 300)
    (hc : ∀ i, i < k → wOk v f xs s ws i = true ∧ wEnd v f xs s ws i = false) (he : wEnd v f xs s ws k = true) (hw : wit v f xs s ws k = (s', ws')) :
    Calls Try.prog 20 #[wrI r, .pointer (some ⟨b, 0, none⟩)] w fun e w' => e = .returned (.int .i64 k') ∧ KP W b g c ws' r B v f A cl xs s' r2 B2 v2 f2 n t w' := by
  subst ek
  obtain ⟨lv, hV, hW, hR⟩ := h
  refine (wends_ok B r v f A cl xs s b g c ws k w hW.p hV.mem (.inl hW.gB) hk hk2 (fun i hi => (hc i hi).1) (fun i hi => (hc i hi).2) he).mono ?_
  rintro e w' ⟨rfl, k1, k2, k3⟩
  rw [hw] at k1 k2
  exact ⟨rfl, lv, hV.ofW (by have := hW.rB; omega) k2 k3, ⟨k1, hW.gB, hW.rB⟩, hR.other hW.p.hd k3⟩
theorem KP.wsteps (h : KP W b g c ws r B v f A cl xs s r2 B2 v2 f2 n t w) (hBW : W.heap.size ≤ B) (k : Nat) (k' : Int) (ek : k' = k) (hk2 : k ≤ 300)
    (hc : ∀ i, i < k → wOk v f xs s ws i = true) (hw : wit v f xs s ws k = (s', ws')) :
    Calls Try.prog 23 #[wrI r, .pointer (some ⟨b, 0, none⟩), .int .i64 k'] w fun e w' => e = .returned (.bool true) ∧ KP W b g c ws' r B v f A cl xs s' r2 B2 v2 f2 n t w' := by
  obtain ⟨lv, hV, hW, hR⟩ := h
  refine (wsteps_ok B r v f A cl xs s b g c ws k k' ek w hW.p hV.mem (.inl hW.gB) hk2 hc).mono ?_
  rintro e w' ⟨rfl, k1, k2, k3⟩
  rw [hw] at k1 k2
  exact ⟨rfl, lv, hV.ofW (by have := hW.rB; omega) k2 k3, ⟨k1, hW.gB, hW.rB⟩, hR.other hW.p.hd k3⟩
theorem KP.ofR {w' : World} (hV : KV W w b g c ws) (hW : KW w g r B v f A cl xs s) (hR : KR w g r2 B2 v2 f2 n t lv) (hBW : W.heap.size ≤ B2) (hrr : r < B2) (h : RSt B2 w r2 v2 f2 n lv b g c ws t' w') : KP W b g c ws r B v f A cl xs s r2 B2 v2 f2 n t' w' := by
  obtain ⟨lv', k1, k2, k3, k4, k5⟩ := h
  exact ⟨lv', hV.ofR hR hBW k2 k3, hW.other hR hrr k3, ⟨k1, hR.gB, hR.rB, k5⟩⟩
theorem KP.rends (h : KP W b g c ws r B v f A cl xs s r2 B2 v2 f2 n t w) (hBW : W.heap.size ≤ B2) (hrr : r < B2) (k : Nat) (k' : Int) (ek : k' = k) (hk : 1 ≤ k) (hk2 : k ≤ 300)
    (hc : ∀ i, i < k → rOk v2 f2 n t ws i = true ∧ rEnd v2 f2 n t ws i = false) (he : rEnd v2 f2 n t ws k = true) (hw : rit v2 f2 n t ws k = t') :
    Calls Try.prog 20 #[rdI r2, .pointer (some ⟨b, 0, none⟩)] w fun e w' => e = .returned (.int .i64 k') ∧ KP W b g c ws r B v f A cl xs s r2 B2 v2 f2 n t' w' := by
  subst ek hw
  obtain ⟨lv, hV, hW, hR⟩ := h
  refine (rends_ok B2 r2 v2 f2 n t lv b g c ws k w hR.p hV.mem hR.ng hk hk2 (fun i hi => (hc i hi).1) (fun i hi => (hc i hi).2) he).mono ?_
  rintro e w' ⟨rfl, hS⟩
  exact ⟨rfl, KP.ofR hV hW hR hBW hrr hS⟩
theorem KP.rsteps (h : KP W b g c ws r B v f A cl xs s r2 B2 v2 f2 n t w) (hBW : W.heap.size ≤ B2) (hrr : r < B2) (k : Nat) (k' : Int) (ek : k' = k) (hk2 : k ≤ 300)
    (hc : ∀ i, i < k → rOk v2 f2 n t ws i = true) (hw : rit v2 f2 n t ws k = t') :
    Calls Try.prog 23 #[rdI r2, .pointer (some ⟨b, 0, none⟩), .int .i64 k'] w fun e w' => e = .returned (.bool true) ∧ KP W b g c ws r B v f A cl xs s r2 B2 v2 f2 n t' w' := by
  subst hw
  obtain ⟨lv, hV, hW, hR⟩ := h
  refine (rsteps_ok B2 r2 v2 f2 n t lv b g c ws k k' ek w hR.p hV.mem hR.ng hk2 hc).mono ?_
  rintro e w' ⟨rfl, hS⟩
  exact ⟨rfl, KP.ofR hV hW hR hBW hrr hS⟩
theorem KP.rstep (h : KP W b g c ws r B v f A cl xs s r2 B2 v2 f2 n t w) (hBW : W.heap.size ≤ B2) (hrr : r < B2) (wt : Bool) (no : Int) (hw : rstp v2 f2 n t ws = ⟨t', wt, no⟩) :
    Calls Try.prog 25 #[.pointer (some ⟨r2, 0, none⟩), memI b] w fun e w' => e = .returned (.tuple #[.bool wt, .int .i64 no]) ∧ KP W b g c ws r B v f A cl xs s r2 B2 v2 f2 n t' w' := by
  obtain ⟨lv, hV, hW, hR⟩ := h
  have := rstep_any B2 r2 v2 f2 n t lv b g c ws w hR.p hV.mem hR.ng
  rw [hw] at this
  refine this.mono ?_
  intro e w' hh
  obtain ⟨k1, k2⟩ := RSt.next (Ch.refl _ w) hV.mem (.inl rfl) hR.ng hh
  exact ⟨k1, KP.ofR hV hW hR hBW hrr k2⟩
theorem KP.step {w' : World} (h : KP W b g c ws r B v f A cl xs s r2 B2 v2 f2 n t w) (hb : Below w.heap.size w w') : KP W b g c ws r B v f A cl xs s r2 B2 v2 f2 n t w' := by
  obtain ⟨lv, hV, hW, hR⟩ := h
  exact ⟨lv, hV.step hb, hW.step hb, hR.step hb⟩
theorem KP.below (h : KP W b g c ws r B v f A cl xs s r2 B2 v2 f2 n t w) : Below W.heap.size W w := by
  obtain ⟨lv, hV, _⟩ := h
  exact hV.below
theorem KP.kv (h : KP W b g c ws r B v f A cl xs s r2 B2 v2 f2 n t w) : KV W w b g c ws := by
  obtain ⟨lv, hV, _⟩ := h
  exact hV
theorem KP.rversion (h : KP W b g c ws r B v f A cl xs s r2 B2 v2 f2 n t w) (x : Int) (hx : (if t.res = 0 then 0 else t.fst) = x) :
    Calls Try.prog 15 #[.pointer (some ⟨r2, 0, none⟩)] w fun e w' => e = .returned (.int .u64 x) ∧ w = w' := by
  subst hx
  obtain ⟨lv, hV, _, hR⟩ := h
  exact rversion_any B2 r2 v2 f2 n t lv w hR.p
theorem KP.rresult (h : KP W b g c ws r B v f A cl xs s r2 B2 v2 f2 n t w) (x : Int) (hx : t.res = x) :
    Calls Try.prog 13 #[.pointer (some ⟨r2, 0, none⟩)] w fun e w' => e = .returned (.int .u64 x) ∧ w = w' := by
  subst hx
  obtain ⟨lv, hV, _, hR⟩ := h
  exact rresult_any B2 r2 v2 f2 n t lv w hR.p
def WdP (w : World) (l : List Int) (e : Ending) (w' : World) : Prop := ∃ A c, e = .returned (.slice A l.length c) ∧ Rd (fun b => w.heap.size ≤ b) w' A (u64s l) ∧ l.length ≤ c ∧ Below w.heap.size w w'
theorem KP.rwords (h : KP W b g c ws r B v f A cl xs s r2 B2 v2 f2 n t w) (hx : t.res ≠ 0) :
    Calls Try.prog 14 #[.pointer (some ⟨r2, 0, none⟩)] w (WdP w t.l) := by
  obtain ⟨lv, hV, _, hR⟩ := h
  refine (rwords_some B2 r2 v2 f2 n t lv w hR.p hx).mono ?_
  rintro e w' ⟨v, rfl, k1, k2⟩
  obtain ⟨A, c, rfl, k3, _⟩ := own_slice k1
  exact ⟨A, c, rfl, (Rd.of_own k1).mono (fun _ _ h => h.1), k3, k2⟩
theorem KP.rnone (h : KP W b g c ws r B v f A cl xs s r2 B2 v2 f2 n t w) (hx : t.res = 0) :
    Calls Try.prog 14 #[.pointer (some ⟨r2, 0, none⟩)] w fun e w' => e = .returned (.slice none 0 0) ∧ w = w' := by
  obtain ⟨lv, hV, _, hR⟩ := h
  exact rwords_none B2 r2 v2 f2 n t lv w hR.p hx
end

/-! ### the law's read and write -/
theorem lread_ok (v f n tries : Int) (w : World) (h : OkV v f n) (ht : 1 ≤ tries) (ht2 : tries ≤ 9223372036854775807) :
    Calls Try.prog 24 #[.int .i64 v, .int .i64 f, .int .i64 n, .int .i64 tries] w fun e w' => ∃ r, e = .returned (.pointer (some ⟨r, 0, none⟩)) ∧ RdAt w.heap.size w' r v f n (rs0 tries) (.slice none 0 0) ∧ w.heap.size ≤ r ∧ Below w.heap.size w w' := by
  have hn := newrd_ok v f n tries w h ht ht2
  clear h
  go_enter Try.func24, Try.ntmps24
  go_wp2_with fail
  refine hn.mono ?_
  rintro e w1 ⟨r, rfl, h1, h2, h3⟩
  go_wp2_with fail
  go_ret
  exact ⟨r, rfl, h1, h2, h3⟩
theorem lread_bad (v f n tries : Int) (w : World) (h : ¬ OkV v f n ∨ tries < 1) :
    Calls Try.prog 24 #[.int .i64 v, .int .i64 f, .int .i64 n, .int .i64 tries] w fun e w' => e = .returned (.pointer none) ∧ w = w' := by
  have hn := newrd_bad v f n tries w h
  clear h
  go_enter Try.func24, Try.ntmps24
  go_wp2_with fail
  refine hn.mono ?_
  rintro e w1 ⟨rfl, rfl⟩
  go_wp2_with fail
  go_ret
  exact ⟨rfl, rfl⟩
def LwP (v f : Int) (xs : List Int) (w : World) (e : Ending) (w' : World) : Prop :=
  ∃ r A c, e = .returned (.pointer (some ⟨r, 0, none⟩)) ∧ WrAt w.heap.size w' r v f A c xs ⟨0, 0, false⟩ ∧ w.heap.size ≤ r ∧ Below w.heap.size w w'
theorem lwrite_ok (v f : Int) (A : Option Addr) (xs : List Int) (k c : Nat) (w : World) (h : OkV v f xs.length) (hr : Rd (fun _ => True) w A (u64s xs)) (hl : xs.length = k) (hA : A = none → c = 0) (hwf : ∀ x ∈ xs, 0 ≤ x ∧ x ≤ 18446744073709551615) :
    Calls Try.prog 22 #[.int .i64 v, .int .i64 f, .slice A k c] w (LwP v f xs w) := by
  have hn := newwr_ok v f A xs k c w h hr hl hA hwf
  clear h hwf hr hl
  go_enter Try.func22, Try.ntmps22
  go_wp2_with fail
  refine hn.mono ?_
  rintro e w1 ⟨r, A1, c1, rfl, h1, h2, h3⟩
  go_wp2_with fail
  go_ret
  exact ⟨r, A1, c1, rfl, h1, h2, h3⟩
end Go.Proofs.Ytbhcgmiglkocbaa
