/-
  What the laws over an arena use: literal forms of the contracts, and the kinds' bounds.
-/
import Derived.Test.YtiahhpjkpdiibaaK01
import Derived.Test.YtiahhpjkpdiibaaOpen2
namespace Go.Proofs.Ytiahhpjkpdiibaa
open Go.RowKit

theorem wf_u64 {x : Int} (h : (Lit.int .u64 x).wf = true) : 0 ≤ x ∧ x ≤ 18446744073709551615 := by
  simp [Lit.wf, IntKind.min, IntKind.max, IntKind.signed, IntKind.bits] at h
  omega
theorem wf_i64 {x : Int} (h : (Lit.int .i64 x).wf = true) : -9223372036854775808 ≤ x ∧ x ≤ 9223372036854775807 := by
  simp [Lit.wf, IntKind.min, IntKind.max, IntKind.signed, IntKind.bits] at h
  omega
theorem wf_u8 {x : Int} (h : (Lit.int .u8 x).wf = true) : 0 ≤ x ∧ x ≤ 255 := by
  simp [Lit.wf, IntKind.min, IntKind.max, IntKind.signed, IntKind.bits] at h
  omega
theorem does_lit (b g c : Nat) (ws : List Int) (k i o x : Int) (w : World) (h : MemAt w b g c ws) (hx : 0 ≤ x ∧ x ≤ 18446744073709551615) :
    Calls Try.prog 13 #[.pointer (some ⟨b, 0, none⟩), acc4 k i o x, acc4 (doK ws k i) (doI ws k i) (doB ws k i) (doA ws k i o x), .int .i64 (doE ws k i)] w (MPost w b g c (doWs ws k i o x) (.bool true)) := by
  have := does_any b g c ws k i o x (doK ws k i) (doI ws k i) (doB ws k i) (doA ws k i o x) (doE ws k i) w h hx
  simpa using this
theorem words_all (b g c : Nat) (ws : List Int) (A : Option Addr) (n d : Nat) (w : World) (h : MemAt w b g c ws) (hx : Rd (fun _ => True) w A (u64s ws)) (hl : ws.length = n) (hd : n ≤ d) :
    Calls Try.prog 16 #[.pointer (some ⟨b, 0, none⟩), .int .i64 0, .int .i64 n, .slice A n d, .int .i64 0] w fun e w' => e = .returned (.bool true) ∧ Below w.heap.size w w' := by
  subst hl
  have := words_ok b g c ws 0 ws.length ws A ws ws.length d 0 w h (by omega) (by omega) (by simp) hx rfl (by have := h.hi; omega) hd
  refine this.mono ?_
  rintro e w' ⟨he, hb⟩
  exact ⟨by rw [he]; simp [eqB], hb⟩
theorem mlen_len (b g c n : Nat) (ws : List Int) (w : World) (h : MemAt w b g c ws) (hl : ws.length = n) :
    Calls Try.prog 15 #[.pointer (some ⟨b, 0, none⟩)] w fun e w' => e = .returned (.int .i64 n) ∧ w = w' := by
  subst hl
  exact mlen_any b g c ws w h
theorem rdo_any (A : Option Addr) (ws : List Int) (n c : Nat) (k i bf af : Int) (G : Nat → Prop) (w : World) (hr : Rd G w A (u64s ws)) (hl : ws.length = n) (hc : n ≤ c) (hcm : c ≤ 9223372036854775807) (hn : n ≤ 100000) (hA : A = none → c = 0) :
    Calls Try.prog 11 #[.slice A n c, acc4 k i bf af] w (RDo G w ws k i bf af) := by
  by_cases h : (k < 1 ∨ 4 < k) ∨ (i < 0 ∨ (n : Int) ≤ i)
  · exact rdo_bad A ws n c k i bf af G w hr hl hc hcm hA h
  · obtain ⟨j, rfl⟩ : ∃ j : Nat, i = j := ⟨i.toNat, by omega⟩
    exact rdo_ok A ws n c k j bf af G w hr hl hc hn hA (by omega) (by omega)
def RDoN (G : Nat → Prop) (w : World) (n : Nat) (ws : List Int) (k i bf af : Int) (e : Ending) (w' : World) : Prop :=
  ∃ A c, e = .returned (.tuple #[.slice A n c, acc4 (doK ws k i) (doI ws k i) (doB ws k i) (doA ws k i bf af), .int .i64 (doE ws k i)]) ∧
    Rd (fun b => G b ∨ w.heap.size ≤ b) w' A (u64s (doWs ws k i bf af)) ∧ n ≤ c ∧ c ≤ 9223372036854775807 ∧ (A = none → c = 0) ∧ Below w.heap.size w w'
theorem rdo_n (A : Option Addr) (ws : List Int) (n c : Nat) (k i bf af : Int) (G : Nat → Prop) (w : World) (hr : Rd G w A (u64s ws)) (hl : ws.length = n) (hc : n ≤ c) (hcm : c ≤ 9223372036854775807) (hn : n ≤ 100000) (hA : A = none → c = 0) :
    Calls Try.prog 11 #[.slice A n c, acc4 k i bf af] w (RDoN G w n ws k i bf af) := by
  refine (rdo_any A ws n c k i bf af G w hr hl hc hcm hn hA).mono ?_
  subst hl
  exact fun _ _ h => h
abbrev accK : List IntKind := [.i64, .i64, .u64, .u64]
/-- the four cells of an access in a list -/
theorem accs_at {G : Nat → Prop} {w : World} {A : Option Addr} {xs : List (List Int)} (h : Rd G w A (recs accK xs)) (hl : ∀ r ∈ xs, r.length = accK.length ∧ ∀ (j : Nat) (k : IntKind) (x : Int), accK[j]? = some k → r[j]? = some x → (Lit.int k x).wf = true)
    {i : Nat} (hi : i < xs.length) : ∃ (b o : Nat) (k w1 x y : Int), A = some ⟨b, o, none⟩ ∧ G b ∧ b < w.heap.size ∧ xs[i]? = some [k, w1, x, y] ∧ w.cell? ⟨b, o + i * 4, none⟩ = some (.int .i64 k) ∧ w.cell? ⟨b, o + i * 4 + 1, none⟩ = some (.int .i64 w1) ∧
      w.cell? ⟨b, o + i * 4 + 2, none⟩ = some (.int .u64 x) ∧ w.cell? ⟨b, o + i * 4 + 3, none⟩ = some (.int .u64 y) ∧ (0 ≤ x ∧ x ≤ 18446744073709551615) ∧ (0 ≤ y ∧ y ≤ 18446744073709551615) := by
  have hlen : ∀ r ∈ xs, r.length = accK.length := fun r hr => (hl r hr).1
  have hm := List.getElem_mem hi
  have hg := List.getElem?_eq_getElem hi
  obtain ⟨h4, hwf⟩ := hl _ hm
  generalize xs[i] = r at hm hg h4 hwf
  match r, h4 with
  | [k, w1, x, y], _ =>
    have hat := fun j (hj : j < 4) => recs_at (ks := accK) hlen hg hj
    obtain ⟨b, o, rfl, hG, hb, hc⟩ := h (by
      intro hn
      have := hat 0 (by omega)
      rw [hn] at this
      simp [recV] at this)
    have hc' := fun j (hj : j < 4) v (hv : (recV accK [k, w1, x, y])[j]? = some v) => hc (i * 4 + j) v ((hat j hj).trans hv)
    exact ⟨b, o, k, w1, x, y, rfl, hG, hb, hg, hc' 0 (by omega) _ rfl, by have := hc' 1 (by omega) _ rfl; rwa [← Nat.add_assoc] at this, by have := hc' 2 (by omega) _ rfl; rwa [← Nat.add_assoc] at this, by have := hc' 3 (by omega) _ rfl; rwa [← Nat.add_assoc] at this,
      wf_u64 (hwf 2 _ _ rfl rfl), wf_u64 (hwf 3 _ _ rfl rfl)⟩
end Go.Proofs.Ytiahhpjkpdiibaa
