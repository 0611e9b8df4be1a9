/- The walker, second form: loops of a known number of rounds, array literals. -/
import Derived.Test.YtngieldaebnffaaDoorSyw
import Derived.LoopN
namespace Go.Proofs.YtngieldaebnffaaDoor.Y
open Go.RowKit
section
variable {P : Program} {Q : Exit → Act → World → Prop} {n : Nat} {w0 : World} {S : Sts} {M : List Ent}
structure SRd (P : Program) (c : Code) (Q : Exit → Act → World → Prop) (k n : Nat) (w0 : World) (S : Sts) (M : List Ent) : Prop where
  run : ∀ a w, Sl n a S → Mem w0 w M → Code.rounds P c Q k a w
theorem sc_rounds (k : Nat) {c : Code} (h : SRd P c Q k n w0 S M) : SC P (.loop c) Q n w0 S M := ⟨fun a w h1 h2 => wp_loop_rounds k (h.run a w h1 h2)⟩
theorem srd_succ {k : Nat} {c : Code} (h : SC P c (Exit.then (Code.rounds P c Q k) Q) n w0 S M) : SRd P c Q (k + 1) n w0 S M := ⟨fun a w h1 h2 => h.run a w h1 h2⟩
theorem sq_rounds {k : Nat} {c : Code} (h : SRd P c Q k n w0 S M) : SQ (Exit.then (Code.rounds P c Q k) Q) .normal n w0 S M := ⟨fun a w h1 h2 => h.run a w h1 h2⟩
end
section
variable {P : Program} {T : Tab} {w0 : World} {S : Sts} {M : List Ent} {L : Cd} {o : Oper}
/-- an array literal, all elements told in order. -/
theorem vo_abuild (hT : TOK P T) {t e : TypeId} {parts : List (Nat × Operand)} {n' len : Nat} {z : List Value} {td : TD} {Ls : List Cd} {vs r : List Value} (h1 : o.op = .build t parts.toArray)
    (h2 : evL S (parts.map (·.2)) = some (Ls, vs)) (h3 : SufA L Ls) (h4 : lk t T = some (.arr n' z len e)) (h5 : lk e T = some td) (h6 : catO td.size vs = some r) (h7 : idxs (parts.map (·.1)) 0 = true) (h8 : Nat.beq r.length z.length = true) : VO P w0 S M L o (.agg ⟨r⟩) := by
  intro n a w hS hM hL
  obtain ⟨i, hu, hi, hz, _⟩ := tdOf_arr (hT.get h4)
  obtain ⟨i2, hi2, hs2, _⟩ := tdOf_info (hT.get h5)
  have hvs := evL_spec hS hL _ h2 h3
  have hlen := Nat.eq_of_beq_eq_true h8
  have hzip : (parts.map fun p => (p.1, a.eval p.2)) = (parts.map (·.1)).zip vs := by
    rw [← hvs, List.map_map]
    generalize parts = ps
    induction ps with
    | nil => rfl
    | cons p ps ih => simp [List.zip_map']
  have hl2 : (parts.map (·.1)).length = vs.length := by rw [← hvs]; simp
  have harr : (parts.toArray.map fun (x : Nat × Operand) => match x with | (i, x) => (i, a.eval x)).toList = (parts.map (·.1)).zip vs := by
    rw [← hzip]; simp
  have hf := fill_cat (size := td.size) (k := 0) (cs := ⟨z⟩) h7 hl2 h6 (by simp; omega)
  unfold execOp
  simp only [h1]
  simp only [Instr.build, Sem.run_bind, run_zeroV hi hz, Result.andThen_ok, run_underlying hu, run_sizeOf hi2, hs2, Value.cells, harr, hf, Sem.run_pure]
  simp [← hlen]
end
end Go.Proofs.YtngieldaebnffaaDoor.Y
