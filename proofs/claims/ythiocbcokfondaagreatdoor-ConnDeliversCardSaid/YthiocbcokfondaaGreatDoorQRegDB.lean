/- Array literals in drawn regions. -/
import Derived.Test.YthiocbcokfondaaGreatDoorQBunY
namespace Go.Proofs.YthiocbcokfondaaGreatDoor.Y
open Go.RowKit
theorem Sl.know {n : Nat} {a : Act} {S : bJ} (h : Sl n a S) {t : Nat} {L : Cd} {v : Value} (hl : lk t S = some (L, v)) (hL : aF L = true) : Sl n a ((t, [], v) :: S) := ⟨h.1, h.2.1, fun t' L' v' ht => by
  rw [dR] at ht
  by_cases e : t = t'
  · rw [if_pos e] at ht
    obtain ⟨rfl, rfl⟩ := (by simpa using ht)
    subst e
    rw [h.2.2 t L v hl, hL]; rfl
  · rw [if_neg e] at ht; exact h.2.2 t' L' v' ht⟩
theorem dV {al : List (Nat × List Nat)} {P : Program} {l0 rest tail : List Oper} {Q : Exit → Act → World → Prop} {n : Nat} {w0 : World} {S : bJ} {M : List Ent} {L : Cd} {o : Oper} {d i : Nat} {es : List EX} {ds : List Nat} {C : List (Nat × EX)} {T : fJ} (hT : TOK P T) (t0 : Nat) {L0 : Cd} {v0 : Value} {t e : TypeId} {len : Nat} {parts : List (Nat × Operand)} {z : Value} {td : TD} {Ls : List Cd} {vs cs : List Value} (h1 : o.op = .buildSlice t len parts.toArray) (hg : gd l0 S o.guard = some L) (hL : aF L = true) (hl : lk t0 S = some (L0, v0)) (hL0 : aF L0 = true)
    (h2 : xW ((t0, [], v0) :: S) (parts.map (·.2)) = some (Ls, vs)) (h3 : qX [] Ls) (h4 : lk t T = some (.slc e z)) (h5 : lk e T = some td) (h6 : pS td.size vs = some cs) (h7 : wP (parts.map (·.1)) 0 = true) (h8 : Nat.beq parts.length len = true) (h10 : Nat.ble (len * td.size) 16777216 = true)
    (hd : o.dst = some d) (hn : Nat.blt d n = true) (hf : bE o = false) (hi : ds.contains d = true) (ha : wm d al = [])
    (h : Az al ds P l0 Q rest tail n w0 M S (i + 1) ((i, ⟨d, Nat, fun _ => True, fun g => .slice (some ⟨g, 0, none⟩) len len, fun g => [.obj g (.cells ⟨cs⟩ e (0, 0))]⟩) :: C) (es ++ [⟨d, Nat, fun _ => True, fun g => .slice (some ⟨g, 0, none⟩) len len, fun g => [.obj g (.cells ⟨cs⟩ e (0, 0))]⟩])) : Az al ds P l0 Q (o :: rest) tail n w0 M S i C es := by
  refine CV _ hg hL (fun a w hS hM => ?_) hd hn hf hi ha h
  refine ca (oe hT h1 h2 h3 h4 h5 h6 h7 h8 h10 (hS.know hl hL0)) ⟨⟨w.heap.size, trivial, rfl, ⟨⟨Nat.le_refl _, heap_alloc_new w _⟩, ⟨fun f hf => (by cases hf), trivial⟩⟩, fun f hf b hb => ?_, fun b hb => ?_⟩, (Below.refl _ _).alloc (Nat.le_refl _) _⟩
  · obtain rfl : f = _ := by simpa using hf
    exact hb
  · have hb' : b = w.heap.size := hb
    subst hb'
    exact ⟨Nat.le_refl _, jn (heap_alloc_new w _)⟩
end Go.Proofs.YthiocbcokfondaaGreatDoor.Y
