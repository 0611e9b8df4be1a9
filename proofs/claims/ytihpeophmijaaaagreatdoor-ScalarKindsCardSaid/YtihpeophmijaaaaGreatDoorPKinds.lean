/- ScalarKinds: Is, Zero, IsZero, Int and Fits are those of the reference; the card ties the listed package-level variables to the program text. -/
import Derived.Test.YtihpeophmijaaaaGreatDoorRows
import Derived.Test.YtihpeophmijaaaaGreatDoorCards
import Derived.Test.YtihpeophmijaaaaGreatDoorTie
import Derived.SevenTiedAt
import Derived.Test.YtihpeophmijaaaaGreatDoorLaid
import Derived.Test.YtihpeophmijaaaaGreatDoorScKinds
import Derived.Test.YtihpeophmijaaaaGreatDoorOpenY
import Derived.Test.YtihpeophmijaaaaGreatDoorGlobSc
import Derived.Lib.SmallJoins
import Derived.Test.YtihpeophmijaaaaGreatDoorLawPost
import Derived.OpenShut
import Derived.ShutString
import Derived.SizedLaws
import Derived.ProofKit
import Derived.Stop.Joined
namespace Go.Proofs.YtihpeophmijaaaaGreatDoor.scalarKinds
open Go.ChangeShapes Go.WideShapes Go.ChangeAt Go.RowKit
open Go.ChangeMaps (open_string shut_string)

theorem own : ownKnob Tryz.prog.godebug = none := by kernel_rfl
theorem laid : laidOutB Tryz.prog = true := by kernel_rfl
theorem door_met (os : Os) (args : Array Value) : laidMetH Tryz.prog Rows.scalarKindsRow.laid ((World.doorLaid Tryz.prog 400 os).forCall (fun _ _ => 0) ⟨#[], args, []⟩).memory :=
  laidMetH_of_parts3 (fuel := 8) (laidMet_of_run' 8 (by kernel_rfl) (by kernel_rfl)) (by kernel_rfl) (by kernel_rfl)
set_option maxRecDepth 100000 in
theorem lifted (os : Os) (started : os.Started) (H : Type) (enc : TypeId × Value → H) :
    ReturnsInHanded {} Tryz.checked os 5 .any (fun w args => (Rows.scalarKindsSpec.pre enc Tryz.prog Tryz.f5 Rows.scalarKindsRow.domain false w args ∧ laidMetH Tryz.prog Rows.scalarKindsRow.laid w) ∧ sizedMet enc Tryz.prog Tryz.f5 (OpenSpec.ofChange Rows.scalarKindsSpec) false w args)
      (Rows.scalarKindsSpec.post enc Tryz.prog Tryz.f5 false true false false) := by
  refine returnsInHanded_of_change_and (C := Tryz.checked) (X := fun w _ => laidMetH Tryz.prog Rows.scalarKindsRow.laid w) (fun _ _ _ hh h => h.of_heap hh) own started (by kernel_rfl) Tryz.func5
    (ChangeSpec.witness_shaped (enc := enc) (C := Tryz.checked) (os := os) (X := fun w _ => laidMetH Tryz.prog Rows.scalarKindsRow.laid w) false (World.doorLaid Tryz.prog 400 os) #[.int .i64 0, .agg #[.int .i64 0, .int .u64 0, .string ByteArray.empty, .slice none 0 0, .slice none 0 0, .slice none 0 0, .slice none 0 0]] 8 rfl (World.shaped_of_RefB (by kernel_rfl) (by kernel_rfl)) (by kernel_rfl) (by kernel_rfl) (by kernel_rfl) (door_met os _)) ?_
  intro W base args ds gs before hval0 hW hcnd hsz hLL _
  have hL : laidMet Tryz.prog Rows.scalarKindsRow.laid W := by rw [MakeChecks.laidMetH_plain _ _ _ (by kernel_rfl)] at hLL; exact hLL
  have hval : ∀ (j : Nat) t v, Tryz.f5.params[j]? = some t → args[j]? = some v → Value.okWide Tryz.prog W .any base t v := hval0
  have hW' := hW
  obtain ⟨p, q, hA0, hV, rfl, hfz, hnd⟩ := hW
  have hA : DataW.TrodAll enc Tryz.prog W 0 (fun _ => true) true Tryz.f5.params.toList args.toList ds p := hA0
  rw [Tryz.params5] at hA hval
  obtain ⟨v0, vs0, d0, ds0, p0, q0, hargs, rfl, rfl, h0, r0⟩ := trodAll_cons hA
  obtain ⟨v1, vs1, d1, ds1, p1, q1, rfl, rfl, rfl, h1, r1⟩ := trodAll_cons r0
  obtain ⟨rfl, rfl, rfl⟩ := trodAll_nil r1
  obtain rfl : args = #[v0, v1] := by cases args; simp_all
  obtain ⟨rfl, rfl⟩ := trodVars_none hV
  obtain ⟨a0, rfl, rfl, rfl, w0⟩ := open_int Tryz.underlying3 (hval 0 3 v0 rfl rfl) h0
  have u0 : (-9223372036854775808 : Int) ≤ a0 ∧ a0 ≤ 9223372036854775807 := by simpa [Lit.wf, IntKind.min, IntKind.max, IntKind.signed, IntKind.bits] using w0
  obtain ⟨cs1, rfl, hk1_0⟩ := Y.open_struct Y.tok (t := 28) (ks := [.int .i64, .int .u64, .str, .slc, .slc, .slc, .slc]) rfl rfl (by kernel_rfl) (fun m hm => by have hz := List.all_eq_true.1 hsz _ (DataW.weights_mem_each (j := 1) (t := 28) (d := d1) (by rw [Tryz.params5]; rfl) rfl m hm); exact of_decide_eq_true hz) (hval 1 28 v1 rfl rfl) h1
  obtain ⟨_, _, rfl, ⟨c1_0, rfl, k1_0⟩, hk1_1⟩ := Y.okL_cons hk1_0
  obtain ⟨_, _, rfl, ⟨c1_1, rfl, k1_1⟩, hk1_2⟩ := Y.okL_cons hk1_1
  obtain ⟨_, _, rfl, ⟨c1_2, rfl, k1_2⟩, hk1_3⟩ := Y.okL_cons hk1_2
  obtain ⟨_, _, rfl, ⟨x1_3, n1_3, p1_3, rfl, k1_3⟩, hk1_4⟩ := Y.okL_cons hk1_3
  obtain ⟨_, _, rfl, ⟨x1_4, n1_4, p1_4, rfl, k1_4⟩, hk1_5⟩ := Y.okL_cons hk1_4
  obtain ⟨_, _, rfl, ⟨x1_5, n1_5, p1_5, rfl, k1_5⟩, hk1_6⟩ := Y.okL_cons hk1_5
  obtain ⟨_, _, rfl, ⟨x1_6, n1_6, p1_6, rfl, k1_6⟩, hk1_7⟩ := Y.okL_cons hk1_6
  obtain rfl := Y.okL_nil hk1_7
  have b1_0 : -9223372036854775808 ≤ c1_0 ∧ c1_0 ≤ 9223372036854775807 := by simpa [Lit.wf, IntKind.min, IntKind.max, IntKind.signed, IntKind.bits] using k1_0
  have b1_1 : 0 ≤ c1_1 ∧ c1_1 < 18446744073709551616 := by
    have hh := k1_1
    simp [Lit.wf, IntKind.min, IntKind.max, IntKind.signed, IntKind.bits] at hh
    omega
  clear hA0 hval0
  refine (Y.kinds_law a0 c1_0 c1_1 c1_2 x1_3 x1_4 x1_5 x1_6 n1_3 p1_3 n1_4 p1_4 n1_5 p1_5 n1_6 p1_6 W ⟨by omega, by omega, by omega, by omega⟩ (by omega) (Y.gs_of_laid hL (by simp [Rows.scalarKindsRow]) (by simp [Rows.scalarKindsRow]) (by simp [Rows.scalarKindsRow]) (by simp [Rows.scalarKindsRow]))).mono fun e W' ⟨he, hb⟩ => ?_
  subst he
  exact ⟨_, rfl, law_post laid hW' hb (by kernel_rfl) (by kernel_rfl) rfl Tryz.underlying4 rfl rfl rfl⟩

theorem row_holds : Rows.ScalarKindsSaid :=
  OpenClaim.holds_of_wide 5 Tryz.f5 rfl rfl rfl rfl rfl rfl rfl ⟨rfl, rfl, rfl, rfl, rfl⟩ rfl rfl rfl rfl rfl (by kernel_rfl) Tryz.func5 (by kernel_rfl)
    (of_decide_eq_true (by kernel_rfl)) (by unfold Func.isWrapper; first | (rw [if_pos (by decide +kernel)]; kernel_rfl) | (rw [if_neg (by decide +kernel)]; exact ⟨rfl, rfl⟩))
    (fun os started H enc _ => lifted os started H enc)
/-- THE STATEMENT: the tied card. -/
theorem proved : Rows.ScalarKindsCardSaid :=
  Claim7.holds_tied_plain_at .later [] [.data, .data, .data, .sentinel, .sentinel] true (true, "fb6937c3574664127a3c3c0ab8ad6b34aafaaa49286aff0ad436b1eb1272c156") true
    row_holds (fun _ h => by cases h) (by kernel_rfl) (fun _ h => by cases h) scalarKinds_row_tie rfl ⟨rfl, rfl⟩ (by kernel_rfl) rfl
    (fun f fn hf hfn => by
      obtain rfl : f = 5 := Option.some.inj ((show Tryz.prog.funcNamed "wireschema/wireschemalaw04.ScalarKinds" = some 5 by kernel_rfl).symm.trans hf) |>.symm
      obtain rfl : fn = Tryz.f5 := (Option.some.inj (Tryz.func5.symm.trans hfn)).symm
      exact ⟨by kernel_rfl, fun j t ht => by
        rw [Tryz.params5] at ht
        have hm := Array.mem_of_getElem? ht
        have hall : (Tryz.f5.params.toList.all fun u => !Tryz.prog.wantsStandIn u) = true := by kernel_rfl
        rw [Tryz.params5] at hall
        exact (show Tryz.prog.wantsStandIn t = false by simpa using List.all_eq_true.1 hall t (by simpa using hm))⟩)
    (by kernel_rfl)
end Go.Proofs.YtihpeophmijaaaaGreatDoor.scalarKinds
