/- The law ConnOnce, walked. -/
import Derived.Test.YthiocbcokfondaaGreatDoorBCn28
import Derived.Test.YthiocbcokfondaaGreatDoorBBunQ
import Derived.Test.YthiocbcokfondaaGreatDoorBBunX
namespace Go.Proofs.YthiocbcokfondaaGreatDoor.Y
open Go.RowKit
theorem OpOk.old {A B : Nat → Prop} {w w1 : World} {o : sj} {hx : Option Addr} (h : OpOk A w o hx) (hb : Below w.heap.size w w1) : OpOk (fun b => B b ∨ b < w.heap.size) w1 o hx :=
 ⟨h.ms, h.hd, h.hl, (h.hR.lt.below hb).mono fun _ h => .inr h.2, h.fd, h.tt⟩
theorem yf {F O : Nat → Prop} {w1 w2 : World} {s : NV} {x : Option Addr} {l : List bd} (h : OutN F w1 w2 s) (h4 : Rws (fun b => w1.heap.size ≤ b) w2 4 fC x l) (hO : ∀ b, F b → O b) : ∃ Fs : Nat → Prop, ∃ g : Nat → Prop, MemL w1.heap.size w2 [.rep Fs (fun w => NOk Fs w s ∧ Rws Fs w 4 fC x l)] ∧ (∀ f ∈ [Ent.rep Fs (fun w => NOk Fs w s ∧ Rws Fs w 4 fC x l)], ∀ b, f.mut b → g b) ∧ (∀ f ∈ [Ent.rep Fs (fun w => NOk Fs w s ∧ Rws Fs w 4 fC x l)], ∀ b, f.foot b → g b ∨ O b) ∧ (∀ b, g b → w1.heap.size ≤ b ∧ b < w2.heap.size) ∧ ∀ b, Fs b → F b ∨ w1.heap.size ≤ b := by
 refine ⟨fun b => (F b ∨ w1.heap.size ≤ b) ∧ b < w2.heap.size, fun b => w1.heap.size ≤ b ∧ b < w2.heap.size, ⟨⟨fun _ h => h.2, ⟨h.1.lt, h4.lt.mono fun b hb => ⟨.inr hb.1, hb.2⟩⟩, fun w3 w4 hk h => ⟨h.1.agree hk, h.2.agree hk⟩⟩, fun f hf => (by cases hf), trivial⟩, fun f hf b hm => ?_, fun f hf b hm => ?_, fun _ h => h, fun b hb => hb.1⟩
 · obtain rfl := List.mem_singleton.1 hf
   exact hm.elim
 · obtain rfl := List.mem_singleton.1 hf
   have hm' : (F b ∨ w1.heap.size ≤ b) ∧ b < w2.heap.size := hm
   rcases hm'.1 with h | h
   · exact .inr (hO b h)
   · exact .inl ⟨h, hm'.2⟩
theorem Mem.addRepO {w0 w : World} {M : List Ent} (h : Mem w0 w M) (p : World → Prop) (hp : ∀ w, p w) : Mem w0 w (.rep (fun _ => False) p :: M) :=
 ⟨h.1, ⟨fun _ h => h.elim, hp w, fun _ w2 _ _ => hp w2⟩, fun _ _ _ => ⟨fun hm => hm.elim, fun _ hf => hf.elim⟩, h.2⟩
structure OS where
 i : Nat
 v : NV
 F : Nat → Prop
attribute [local irreducible] Calls
end Go.Proofs.YthiocbcokfondaaGreatDoor.Y
