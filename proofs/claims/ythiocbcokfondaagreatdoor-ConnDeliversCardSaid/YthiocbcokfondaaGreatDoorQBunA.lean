/- Texts of this claim merged into one: QAppO, QClone, QVac. -/
import Derived.Test.YthiocbcokfondaaGreatDoorQSyw
import Derived.Laws.OwnMore
import Derived.Test.YthiocbcokfondaaGreatDoorQBunT
namespace Go.Proofs.YthiocbcokfondaaGreatDoor.Y
open Go.RowKit
section
variable {P : Program} {T : fJ} {Q : Exit → Act → World → Prop} {n : Nat} {w0 : World} {S : bJ} {M : List Ent} {o : Oper} {l0 rest l : List Oper} {d : Nat}
theorem wT {B0 w : World} {g : Nat} {e : TypeId} {cs : List Value} (len size : Nat) (h : Mem B0 w (.cl g e cs :: M)) (h1 : cs.length = len * size) (h2 : len ≤ maxLen) : Mem B0 w (.own (some ⟨g, 0, none⟩) len e size len cs :: M) := by
  obtain ⟨hb, ho, ha, hr⟩ := h
  refine ⟨hb, ⟨h1, .inr ⟨g, len, ⟨cs⟩, rfl, ho.1, ho.2, Nat.le_refl _, h2, by simpa using h1, ?_⟩⟩, ha, hr⟩
  show cs.take _ = cs
  exact List.take_of_length_le (by omega)
theorem jQ {g : Nat} {e : TypeId} {cs : List Value} (len size : Nat) (h1 : cs.length = len * size) (h2 : len ≤ maxLen) (h : SL P l0 Q l n w0 S (.own (some ⟨g, 0, none⟩) len e size len cs :: M)) : SL P l0 Q l n w0 S (.cl g e cs :: M) := ⟨fun a w h3 h4 => h.run a w h3 (wT len size h4 h1 h2)⟩
end
end Go.Proofs.YthiocbcokfondaaGreatDoor.Y
namespace Go.Proofs.YthiocbcokfondaaGreatDoor.Y
open Go.RowKit
theorem qo : fN Tryz.prog 9 16 := by unfold fN; kernel_rfl
set_option maxRecDepth 100000 in
set_option maxHeartbeats 4000000 in
theorem rk (x : Option Addr) (n c : Nat) (cs : List Value) (w : World) (hx : x = none → n = 0) (hin : ∀ ad, x = some ad → ∀ j u, cs[j]? = some u → w.cell? (ad.add j) = some u) (hlen : cs.length = n * 1) (hone : ∀ u ∈ cs, u.oneCell' = true) (hb : n * 16 ≤ 140737488355328) : Calls Tryz.prog 91 #[.slice x n c] w fun e w' => ∃ p : Option Addr × Nat, e = .returned (.slice p.1 n p.2) ∧ w'.ownsRow w.heap.size 9 1 (.slice p.1 n p.2) n cs ∧ Below w.heap.size w w' := by
  refine aQ Tryz.func91 rfl Tryz.ntmps91 J J ?_
  cases x with
  | none =>
    obtain rfl := hx rfl
    obtain rfl : cs = [] := List.eq_nil_of_length_eq_zero (by omega)
    repeat' (first | refine ai ?_ | refine aa ?_ | refine ab ?_ | refine ag ?_ | ((refine' am rfl ?_ J J ?_); rotate_left; first | exact ak af J J J J | exact aq af J J J J J J))
    refine aB J J ?_
    repeat' (first | refine ai ?_ | refine aa ?_ | refine ab ?_ | refine aA ?_ | refine au ?_ | refine ag ?_ | ((refine' am rfl ?_ J J ?_); rotate_left; exact ak af J J J J))
    refine aC af (fun _ => 0) J J trivial rfl fun w1 hm => ⟨(none, 0), rfl, World.ownsRow_nil _ _ _ _, hm.below⟩
  | some ad =>
    repeat' (first | refine ai ?_ | refine aa ?_ | refine ab ?_ | refine ag ?_ | ((refine' am rfl ?_ J J ?_); rotate_left; first | exact ak af J J J J | exact aq af J J J J J J))
    refine ar J J ?_
    repeat' (first | refine ai ?_ | refine aa ?_ | refine ab ?_ | refine ay ?_ | (refine di af J J J trivial J J J J J J J J ?_; intro g) | ((refine' am rfl ?_ J J ?_); rotate_left; exact ak af J J J J))
    refine jQ 0 1 rfl (Nat.zero_le _) ?_
    skip
    refine mn af 0 J J J J J J J J (fun _ _ => rfl) qo (fun w1 hm j u hu => ?_) (.inr hone) hlen (by unfold maxLen; omega) (by omega) J J ?_
    · have h1 := hin ad rfl j u hu
      exact (hm.below.cell (block_lt_of_cell h1)).trans h1
    intro sa sc
    repeat' (first | refine ab ?_ | refine aA ?_ | refine ag ?_ | ((refine' am rfl ?_ J J ?_); rotate_left; exact ak af J J J J))
    refine aC af (fun _ => 0) J J trivial rfl fun w1 hm => ⟨(sa, sc), by rw [Nat.zero_add], ?_, hm.below⟩
    have h1 := hm.2.get (i := 0) rfl
    rw [Nat.zero_add, List.nil_append] at h1
    exact h1
theorem Cw : fN Tryz.prog 93 32 := by unfold fN; kernel_rfl
set_option maxRecDepth 100000 in
set_option maxHeartbeats 4000000 in
theorem pT (x : Option Addr) (n c : Nat) (cs : List Value) (w : World) (hx : x = none → n = 0) (hin : ∀ ad, x = some ad → ∀ j u, cs[j]? = some u → w.cell? (ad.add j) = some u) (hlen : cs.length = n * 2) (hone : ∀ u ∈ cs, u.oneCell' = true) (hb : n * 32 ≤ 140737488355328) : Calls Tryz.prog 46 #[.slice x n c] w fun e w' => ∃ p : Option Addr × Nat, e = .returned (.slice p.1 n p.2) ∧ w'.ownsRow w.heap.size 93 2 (.slice p.1 n p.2) n cs ∧ Below w.heap.size w w' := by
  refine aQ Tryz.func46 rfl Tryz.ntmps46 J J ?_
  cases x with
  | none =>
    obtain rfl := hx rfl
    obtain rfl : cs = [] := List.eq_nil_of_length_eq_zero (by omega)
    repeat' (first | refine ai ?_ | refine aa ?_ | refine ab ?_ | refine ag ?_ | ((refine' am rfl ?_ J J ?_); rotate_left; first | exact ak af J J J J | exact aq af J J J J J J))
    refine aB J J ?_
    repeat' (first | refine ai ?_ | refine aa ?_ | refine ab ?_ | refine aA ?_ | refine au ?_ | refine ag ?_ | ((refine' am rfl ?_ J J ?_); rotate_left; exact ak af J J J J))
    refine aC af (fun _ => 0) J J trivial rfl fun w1 hm => ⟨(none, 0), rfl, World.ownsRow_nil _ _ _ _, hm.below⟩
  | some ad =>
    repeat' (first | refine ai ?_ | refine aa ?_ | refine ab ?_ | refine ag ?_ | ((refine' am rfl ?_ J J ?_); rotate_left; first | exact ak af J J J J | exact aq af J J J J J J))
    refine ar J J ?_
    repeat' (first | refine ai ?_ | refine aa ?_ | refine ab ?_ | refine ay ?_ | (refine di af J J J trivial J J J J J J J J ?_; intro g) | ((refine' am rfl ?_ J J ?_); rotate_left; exact ak af J J J J))
    refine jQ 0 2 rfl (Nat.zero_le _) ?_
    skip
    refine mn af 0 J J J J J J J J (fun _ _ => rfl) Cw (fun w1 hm j u hu => ?_) (.inr hone) hlen (by unfold maxLen; omega) (by omega) J J ?_
    · have h1 := hin ad rfl j u hu
      exact (hm.below.cell (block_lt_of_cell h1)).trans h1
    intro sa sc
    repeat' (first | refine ab ?_ | refine aA ?_ | refine ag ?_ | ((refine' am rfl ?_ J J ?_); rotate_left; exact ak af J J J J))
    refine aC af (fun _ => 0) J J trivial rfl fun w1 hm => ⟨(sa, sc), by rw [Nat.zero_add], ?_, hm.below⟩
    have h1 := hm.2.get (i := 0) rfl
    rw [Nat.zero_add, List.nil_append] at h1
    exact h1
end Go.Proofs.YthiocbcokfondaaGreatDoor.Y
namespace Go.Proofs.YthiocbcokfondaaGreatDoor.Y
open Go.RowKit
theorem B3 {P : Program} {w0 : World} {S : bJ} {M : List Ent} {L : Cd} {o : Oper} {v v' : Value} (h : VO P w0 S M L o v') (e : v' = v) : VO P w0 S M L o v := e ▸ h
theorem AV {P : Program} {w0 : World} {S : bJ} {M : List Ent} {L : Cd} {o : Oper} {t : TypeId} {x : Operand} (v : Value) (_h1 : o.op = .load t x) (h : aF L = false) : VO P w0 S M L o v := jr _ h
theorem AW {P : Program} {w0 : World} {S : bJ} {M : List Ent} {L : Cd} {o : Oper} {t : TypeId} {x y : Operand} (_h1 : o.op = .indexAddr t x y) (h : aF L = false) : VO P w0 S M L o (.pointer (some ⟨0, 0, none⟩)) := jr _ h
end Go.Proofs.YthiocbcokfondaaGreatDoor.Y
