/- MethodFinds: Find of any path in any schema is that of the reference, and so are Path, Idempotent and Timeout (at most 8 definitions of each sort); the card ties the listed package-level variables to the program text. -/
import Derived.Test.YtngieldaebnffaaDoorRows
import Derived.Test.YtngieldaebnffaaDoorCards
import Derived.Test.YtngieldaebnffaaDoorTie
import Derived.SevenTiedAt
import Derived.Test.YtngieldaebnffaaDoorLaid
import Derived.Test.YtngieldaebnffaaDoorSchIn
import Derived.Test.YtngieldaebnffaaDoorFLawF
import Derived.Test.YtngieldaebnffaaDoorShaped
import Derived.Lib.SmallJoins
import Derived.Test.YtngieldaebnffaaDoorLawPost
import Derived.OpenShut
import Derived.Lay
import Derived.JoinedCond
import Derived.Deep.DeepHandedRow
import Derived.Deep.DeepWitnessRowRef
import Derived.ShutString
import Derived.SizedLaws
import Derived.ProofKit
import Derived.Stop.Joined
namespace Go.Proofs.YtngieldaebnffaaDoor.methodFinds
open Go.ChangeShapes Go.WideShapes Go.ChangeAt Go.RowKit
open Go.ChangeMaps (open_string shut_string)

theorem own : ownKnob Tryd.prog.godebug = none := by kernel_rfl
theorem laid : laidOutB Tryd.prog = true := by kernel_rfl
section
variable {H : Type} {enc : TypeId × Value → H}
theorem witness_row_shaped {C : Checked} {os : Os} {f : FuncId} {fn : Func} {s : OpenSpec} {conds : List PathCond} {apart : Bool} {laid : List (String × DataW Unit)} (modest : Bool) (w0 : World) (args : Array Value) (hos : w0.os = os)
    (hsh : (w0.forCall (fun _ _ => 0) ⟨#[], args, []⟩).Shaped C.prog)
    (hok : Input.okWideB C.prog (w0.forCall (fun _ _ => 0) ⟨#[], args, []⟩) f ⟨#[], args, []⟩ = true)
    (hrow : s.preRow enc C.prog fn conds apart laid (w0.forCall (fun _ _ => 0) ⟨#[], args, []⟩).memory args) :
    ∃ (w : World) (tape : Tape) (i : Input), w.os = os ∧ (w.forCall tape i).Shaped C.prog ∧ i.vars = [] ∧ Input.okWide C.prog (w.forCall tape i) .any w.heap.size f i ∧
      s.preRow enc C.prog fn conds apart laid (w.forCall tape i).memory i.args ∧ ({ modest := modest } : Assume).holds C.prog (lone (Frame.enter C.prog f i.args .normal) [] (w.forCall tape i)) :=
  ⟨w0, fun _ _ => 0, ⟨#[], args, []⟩, hos, hsh, (Input.okWide_of_okWideB (base := 0) hok).1, (Input.okWide_of_okWideB hok).2, hrow, by
    simp only [Assume.holds]
    exact ⟨by simp, by simp, fun _ => Modest.zero, by simp, by simp⟩⟩
end
theorem reads (os : Os) {H : Type} (enc : TypeId × Value → H) : ∃ places, DataW.whole enc Tryd.prog ((World.laidAll Tryd.prog os Rows.methodFindsUptoRow.laid).forCall (fun _ _ => 0) ⟨#[], #[.agg #[.slice none 0 0, .slice none 0 0, .slice none 0 0], .string ByteArray.empty, .agg #[.string ByteArray.empty, .string ByteArray.empty]], []⟩).memory Tryd.f4.params.toList Rows.methodFindsSpec.vars false (#[.agg #[.slice none 0 0, .slice none 0 0, .slice none 0 0], .string ByteArray.empty, .agg #[.string ByteArray.empty, .string ByteArray.empty]] : Array Value).toList 8 = some ([.agg [.nil, .nil, .nil], .lit (.string []), .agg [.lit (.string []), .lit (.string [])]], [], places) :=
  ⟨[], by kernel_rfl⟩
set_option maxRecDepth 100000 in
theorem lifted (os : Os) (started : os.Started) (H : Type) (enc : TypeId × Value → H) (F : Stop.Interp) :
    ReturnsInHanded {} Tryd.checked os 4 .any ((Rows.OpenSpec.upto Rows.methodFindsSpec).preRow enc Tryd.prog Tryd.f4 Rows.methodFindsUptoRow.domain false Rows.methodFindsUptoRow.laid) (((Rows.OpenSpec.upto Rows.methodFindsSpec).at F).post enc Tryd.prog Tryd.f4 false true false false) := by
  obtain ⟨places, hx⟩ := reads os enc
  refine returnsInHanded_of_row (C := Tryd.checked) (s := Rows.OpenSpec.upto Rows.methodFindsSpec) own started (by kernel_rfl) Tryd.func4
    (witness_row_shaped (enc := enc) (C := Tryd.checked) false (World.laidAll Tryd.prog os Rows.methodFindsUptoRow.laid) #[.agg #[.slice none 0 0, .slice none 0 0, .slice none 0 0], .string ByteArray.empty, .agg #[.string ByteArray.empty, .string ByteArray.empty]] (World.laidAll_os _ _ _) (World.shaped_of_ZipB (by kernel_rfl) (by kernel_rfl)) (by kernel_rfl)
      (OpenSpec.preRow_of_cond 8 hx (by kernel_rfl) (fun k hk => by cases hk; kernel_rfl) (by kernel_rfl) (laidMet_laidAll _ (by kernel_rfl) (by kernel_rfl)))) ?_
  intro W base args ds gs before hval0 hW _ hcond hsz hLL hSh _
  have _hL : laidMet Tryd.prog Rows.methodFindsUptoRow.laid W := by rw [MakeChecks.laidMetH_plain _ _ _ (by kernel_rfl)] at hLL; exact hLL
  have hval : ∀ (j : Nat) t v, Tryd.f4.params[j]? = some t → args[j]? = some v → Value.okWide Tryd.prog W .any base t v := hval0
  have hW' := hW
  obtain ⟨p, q, hA0, hV, rfl, hfz, hnd⟩ := hW
  have hA : DataW.TrodAll enc Tryd.prog W 0 (fun _ => true) true Tryd.f4.params.toList args.toList ds p := hA0
  rw [Tryd.params4] at hA hval
  obtain ⟨v0, vs0, d0, ds0, p0, q0, hargs, rfl, rfl, h0, r0⟩ := trodAll_cons hA
  obtain ⟨v1, vs1, d1, ds1, p1, q1, rfl, rfl, rfl, h1, r1⟩ := trodAll_cons r0
  obtain ⟨v2, vs2, d2, ds2, p2, q2, rfl, rfl, rfl, h2, r2⟩ := trodAll_cons r1
  obtain ⟨rfl, rfl, rfl⟩ := trodAll_nil r2
  obtain rfl : args = #[v0, v1, v2] := by cases args; simp_all
  obtain ⟨rfl, rfl⟩ := trodVars_none hV
  obtain ⟨cs0, rfl, hk0⟩ := Y.open_deep true Y.tok 9 (t := 26) rfl (by kernel_rfl) (fun _ => (fun m hm => by have hz := List.all_eq_true.1 hsz _ (DataW.weights_mem_each (j := 0) (t := 26) (d := d0) (by rw [Tryd.params4]; rfl) rfl m hm); exact of_decide_eq_true hz)) (hval 0 26 v0 rfl rfl) h0
  obtain ⟨xm, xe, x, nm0, cm, ne0, ce, cap, l, rfl, hS, hz⟩ := Y.sch_row (n := 0) hk0
  obtain ⟨a1, rfl, rfl, rfl, w1⟩ := open_string Tryd.underlying9 (hval 1 9 v1 rfl rfl) h1
  have z1 : a1.size ≤ 140737488351232 := by
    have hz := sized_string hsz (j := 1) (t := 9) (bytes := a1.data.toList) (by rw [Tryd.params4]; rfl) rfl
    simpa [reachBytes] using hz
  obtain ⟨cs2, rfl, hk2_0⟩ := Y.open_arr Y.tok (t := 41) (ks := [.str, .str]) rfl rfl rfl rfl rfl rfl (by kernel_rfl) (fun m hm => by have hz := List.all_eq_true.1 hsz _ (DataW.weights_mem_each (j := 2) (t := 41) (d := d2) (by rw [Tryd.params4]; rfl) rfl m hm); exact of_decide_eq_true hz) (hval 2 41 v2 rfl rfl) h2
  obtain ⟨_, _, rfl, ⟨u0, rfl, rk0⟩, hk2_1⟩ := Y.okL_cons hk2_0
  obtain ⟨_, _, rfl, ⟨u1, rfl, rk1⟩, hk2_2⟩ := Y.okL_cons hk2_1
  obtain rfl := Y.okL_nil hk2_2
  clear hA0 hval0
  have hk := of_decide_eq_true (hcond _ rfl)
  simp only [Rows.uptoBulkAll, Rows.uptoBulk, List.append_nil] at hk
  have hk2 : a1.data.toList.length = a1.size := by rw [Array.length_toList]; rfl
  refine (Y.finds_law xm xe x nm0 cm ne0 ce cap l a1 u0 u1 W hS (by omega) (by omega) (mlen_of hSh)).mono fun e W' ⟨he, hb⟩ => ?_
  subst he
  exact ⟨_, rfl, law_post laid hW' hb (by kernel_rfl) (by kernel_rfl) rfl Tryd.underlying4 rfl rfl rfl⟩

theorem row_holds : Rows.MethodFindsUptoSaid :=
  OpenClaim.holds_of_cond 4 Tryd.f4 rfl rfl rfl rfl rfl rfl rfl ⟨rfl, rfl, rfl, rfl, rfl⟩ rfl rfl rfl rfl rfl (by kernel_rfl) Tryd.func4 (by kernel_rfl)
    (of_decide_eq_true (by kernel_rfl)) (by unfold Func.isWrapper; first | (rw [if_pos (by decide +kernel)]; kernel_rfl) | (rw [if_neg (by decide +kernel)]; exact ⟨rfl, rfl⟩))
    (fun os started H enc _ F => by rw [OpenClaim.pre_eq_preRow]; exact lifted os started H enc F)
/-- THE STATEMENT: the tied card. -/
theorem proved : Rows.MethodFindsUptoCardSaid :=
  Claim7.holds_tied_plain_at .later [] [.data, .pinned] true (true, "7ea7c3ef0a8ad0f6400f494aa72999b32d5ff276e3bc90e14c480e15f2d836c8") false
    row_holds (fun _ h => by cases h) (by kernel_rfl) (fun _ h => by cases h) methodFindsUpto_row_tie rfl ⟨rfl, rfl⟩ (by kernel_rfl) rfl
    (fun f fn hf hfn => by
      obtain rfl : f = 4 := Option.some.inj ((show Tryd.prog.funcNamed "wireschema/wireschemalaw43.MethodFinds" = some 4 by kernel_rfl).symm.trans hf) |>.symm
      obtain rfl : fn = Tryd.f4 := (Option.some.inj (Tryd.func4.symm.trans hfn)).symm
      exact ⟨by kernel_rfl, fun j t ht => by
        rw [Tryd.params4] at ht
        have hm := Array.mem_of_getElem? ht
        have hall : (Tryd.f4.params.toList.all fun u => !Tryd.prog.wantsStandIn u) = true := by kernel_rfl
        rw [Tryd.params4] at hall
        exact (show Tryd.prog.wantsStandIn t = false by simpa using List.all_eq_true.1 hall t (by simpa using hm))⟩)
    (by kernel_rfl)
end Go.Proofs.YtngieldaebnffaaDoor.methodFinds
