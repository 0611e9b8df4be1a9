/- Schemas, opened. -/
import Derived.Test.YtngieldaebnffaaDoorNoteIn
import Derived.Test.YtngieldaebnffaaDoorFind2
namespace Go.Proofs.YtngieldaebnffaaDoor.Y
open Go.RowKit
theorem mv_row {B : Bool} {w : World} {n : Nat} {cs : List Value} (h : okT tab B w (n + 5) 34 cs) : ∃ v : MV, cs = mvC v ∧ GoodM w v ∧ (B = true → v.nm.size ≤ 140737488351232) := by
  obtain ⟨s1, s2, s3, sh, l, x, cap, e, hN, hlen, hz⟩ := meth_row h
  exact ⟨⟨s1, s2, s3, sh, x, l, cap⟩, e, ⟨hN, by unfold maxLen at hlen; exact hlen⟩, hz⟩
def SzS (v : SV) : Prop := v.nm.size ≤ 140737488351232 ∧ ∀ m ∈ v.ms, m.nm.size ≤ 140737488351232
theorem sv_row {B : Bool} {w : World} {n : Nat} {cs : List Value} (h : okT tab B w (n + 7) 30 cs) : ∃ v : SV, cs = svC v ∧ GoodS w v ∧ (B = true → SzS v) := by
  obtain ⟨hl, hf⟩ := okT_row rfl h
  match cs, hl with
  | [c0, c1, c2], _ =>
    obtain ⟨s0, e0, hz0⟩ := okT_str rfl (hf 0 0 9 _ rfl rfl)
    obtain rfl := (List.cons.inj e0).1
    obtain ⟨x, cap, l, e1, hlen, _, hr, hx⟩ := okT_rows mvC (fun v => GoodM w v ∧ (B = true → v.nm.size ≤ 140737488351232)) rfl rfl rfl (fun cs' h => mv_row (n := n) h) (hf 1 1 27 _ rfl rfl)
    obtain rfl := (List.cons.inj e1).1
    obtain ⟨x2, n2, p2, e2, _⟩ := okT_slc rfl (hf 2 2 28 _ rfl rfl)
    obtain rfl := (List.cons.inj e2).1
    exact ⟨⟨s0, x, l, cap, x2, n2, p2⟩, rfl, ⟨hr, by unfold maxLen at hlen; exact hlen, fun m hm => (hx m hm).1⟩, fun hb => ⟨hz0 hb, fun m hm => (hx m hm).2 hb⟩⟩
theorem sch_row {B : Bool} {w : World} {n : Nat} {cs : List Value} (h : okT tab B w (n + 9) 26 cs) : ∃ (xm xe x : Option Addr) (nm0 cm ne0 ce cap : Nat) (l : List SV), cs = [.slice xm nm0 cm, .slice xe ne0 ce, .slice x l.length cap] ∧ Sch w x l ∧ (B = true → ∀ v ∈ l, SzS v) := by
  obtain ⟨hl, hf⟩ := okT_row rfl h
  match cs, hl with
  | [c0, c1, c2], _ =>
    obtain ⟨xm, nm0, cm, e0, _⟩ := okT_slc rfl (hf 0 0 22 _ rfl rfl)
    obtain rfl := (List.cons.inj e0).1
    obtain ⟨xe, ne0, ce, e1, _⟩ := okT_slc rfl (hf 1 1 23 _ rfl rfl)
    obtain rfl := (List.cons.inj e1).1
    obtain ⟨x, cap, l, e2, hlen, _, hr, hx⟩ := okT_rows svC (fun v => GoodS w v ∧ (B = true → SzS v)) rfl rfl rfl (fun cs' h => sv_row (n := n) h) (hf 2 2 24 _ rfl rfl)
    obtain rfl := (List.cons.inj e2).1
    exact ⟨xm, xe, x, nm0, cm, ne0, ce, cap, l, rfl, ⟨hr, by unfold maxLen at hlen; exact hlen, fun v hv => (hx v hv).1⟩, fun hb v hv => (hx v hv).2 hb⟩
end Go.Proofs.YtngieldaebnffaaDoor.Y
