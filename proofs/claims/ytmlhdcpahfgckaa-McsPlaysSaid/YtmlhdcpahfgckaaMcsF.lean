/-
  A step of both as McsPlays makes it; operations of a region that draws, taken one by one.
-/
import Derived.Test.YtmlhdcpahfgckaaMcsE
import Derived.OrdersHeld
import Derived.Deep.RegionHeld3
namespace Go.Proofs.Ytmlhdcpahfgckaa
open Go.RowKit

section
variable {P : Program} {ops : Array Oper} {Q : Exit → Act → World → Prop} {md : Region.Mode} {S : World → Prop}
theorem take_yes {i : Nat} {oi : Oper} {v : Value} {fuel : Nat} {listed : Array Bool} {a : Act} {w : World} (hi : ops.toList[i]? = some oi)
    (hs : Region.noSelect ops = true) (hf : Region.free md ops listed i = true) (hr : (Region.ready md ops listed).contains i = true)
    (hQ : ∀ c a w, Q (.panic c) (a.put oi.dst v) w → Q (.panic c) a w) (hw : Region.wanted oi (yielded ops a.tmps) = true) (hy : ∀ w, S w → (execOp a.eval oi).run P w = .ok (.value v) w) (hS : S w)
    (h : wpAnyH P md ops Q S fuel (listed.setIfInBounds i true) (a.put oi.dst v) w) : wpAnyH P md ops Q S (fuel + 1) listed a w :=
  wpAnyH_take (by rw [← hi, Array.getElem?_toList]) hs hf hr hQ (.inl ⟨hw, hy⟩) hS h
theorem take_mid {i : Nat} {oi : Oper} {fuel : Nat} {listed : Array Bool} {a : Act} {w : World} (hi : ops.toList[i]? = some oi)
    (hs : Region.noSelect ops = true) (hf : Region.free md ops listed i = true) (hr : (Region.ready md ops listed).contains i = true) (ty : TypeId) (x : Operand) (ho : oi.op = .load ty x)
    (b o : Nat) (cs : List Value) (hQ : ∀ c a w, Q (.panic c) (a.put oi.dst (.agg cs.toArray)) w → Q (.panic c) a w) (hw : Region.wanted oi (yielded ops a.tmps) = true) (hx : a.eval x = .pointer (some ⟨b, o, none⟩)) (d : TypeDesc) (hr2 : ∀ w, S w → w.rangeAt b o cs)
    (hu : P.underlying ty = some d) (hd : d.isRow = true) (hl : (P.info? ty).map (·.size) = some cs.length) (hS : S w)
    (h : wpAnyH P md ops Q S fuel (listed.setIfInBounds i true) (a.put oi.dst (.agg cs.toArray)) w) : wpAnyH P md ops Q S (fuel + 1) listed a w :=
  wpAnyH_take (by rw [← hi, Array.getElem?_toList]) hs hf hr hQ (yieldsIf_load_mid hw ty x ho b o hx cs d hr2 hu hd hl) hS h
theorem cons_l {fuel : Nat} {listed : Array Bool} {a : Act} {w : World} {i : Nat} {o : Oper} {rs : List Nat} (ho : ops.toList[i]? = some o)
    (h : ∀ K' : Act → World → Prop, Shut (∀ a w, S w → (S w → wpAnyH P md ops Q S fuel (listed.setIfInBounds i true) a w) → K' a w) → if Region.wanted o (yielded ops a.tmps) = true then Oper.wp P o a w K' Q else K' (a.put o.dst undef) w)
    (hs : AllReadyH P md ops Q S fuel listed a w rs) : AllReadyH P md ops Q S fuel listed a w (i :: rs) := AllReadyH.cons (by rw [← ho, Array.getElem?_toList]) h hs
end
theorem does_any (bk : Bool) (r nb b g c : Nat) (B t : Int) (x y : Rn) (ws : List Int) (A : Option Addr) (n cl : Nat) (G : Nat → Prop) (w : World) (h : Sat w bk r nb b g c B t x ws) (hB1 : B ≤ 65536) (hE : Eqv x y)
    (hr : Rd G w A (u64s ws)) (hG : ∀ q, G q → q ≠ g ∧ q ≠ r) (hl : ws.length = n) (hc : n ≤ cl) (hcm : cl ≤ 9223372036854775807) (hA : A = none → cl = 0) :
    Calls Try.prog 17 #[progI bk r, rrun B t bk y, .pointer (some ⟨b, 0, none⟩), .slice A n cl] w (DoesP w bk r nb b g c B t n G (stp bk B t x ws).x (stp bk B t x ws).ws) := by
  cases bk
  · exact does_Acquire r nb b g c B t x y ws A n cl G w h hB1 hE hr hG hl hc hcm hA
  · exact does_Release r nb b g c B t x y ws A n cl G w h hB1 hE hr hG hl hc hcm hA
section
variable {W w4 wA w5 wF : World} {nb b g pb rb hb vb n c7 k c2 : Nat} {A A2 : Option Addr} {pl : List (Option (Nat × Bool × Rn))} {pv hv : List Value} {ws ws' : List Int} {t r : Nat} {bk : Bool} {x x' y : Rn}
theorem PX.turn (h : PX W w4 nb b g pb rb hb vb n A c7 pl pv hv ws (fun _ => True)) (hi : pl[t]? = some (some (r, bk, x))) (hA : Below w4.heap.size w4 wA) (hs : Sat w5 bk r nb b g (1 + 6 * n) 1 n x' ws')
    (hr : Rd (fun q => (Apart g pb rb hb vb pl q ∧ q < w4.heap.size) ∨ wA.heap.size ≤ q) w5 A2 (u64s ws')) (h1 : 1 + 6 * n ≤ c2) (h2 : c2 ≤ 9223372036854775807) (h3 : A2 = none → c2 = 0) (hl : ws'.length = 1 + 6 * n)
    (hc : Ch (fun j => j = r ∨ j = g) wA w5) (hk : w4.heap.size ≤ k) (hF : Ch (fun j => j = k) w5 wF) (hq : ∀ q, q < w5.heap.size → (q < w4.heap.size ∨ wA.heap.size ≤ q) → q ≠ k) :
    PX W wF nb b g pb rb hb vb n A2 c2 (pl.set t (some (r, bk, x'))) pv hv ws' (fun s => s ≠ t) := by
  obtain ⟨sp, hrow⟩ := h.ko.mem.row
  have a1 := hrow.lt
  have a2 := (h.ko.run _ (List.mem_of_getElem? hi)).1.lt
  have a3 : nb < w4.heap.size := h.ko.nd.c.lt
  have a4 : b < w4.heap.size := h.ko.mem.hd.lt
  refine h.does hi (hs.keep hF (by show r ≠ k; simp only at a2; omega) (by omega) (by omega) (by omega)) ((hr.keep hF (fun q hq' hg e => hq q hq' (hg.elim (fun z => .inl z.2) .inr) e)).mono (fun q _ z => z.elim (fun z => .inl z.1) (fun z => .inr (Nat.le_trans hA.size z)))) h1 h2 h3 hl ?_
  exact ((Ch.of_below hA (fun j => j = r ∨ j = g)).trans hc (fun _ _ e => e)).trans hF (fun j hj e => by omega)
/-- the reference's program in a block of its own -/
theorem run_here {w : World} {kk : Nat} {z : List Value} (hz : Blk w kk 46 z) (hl : z.length = 8) (nn : Int) (bk : Bool) (y : Rn) : w.there kk 0 8 ∧ (w.setCells kk 0 (rc8 1 nn bk y)).rangeAt kk 0 (rc8 1 nn bk y) ∧ Ch (fun j => j = kk) w (w.setCells kk 0 (rc8 1 nn bk y)) :=
  have ht := there_blk hz 0 8 (by omega)
  ⟨ht, World.rangeAt_setCells_same w kk 0 _ ht, setCells_ch kk _ 0 w⟩
end
end Go.Proofs.Ytmlhdcpahfgckaa
