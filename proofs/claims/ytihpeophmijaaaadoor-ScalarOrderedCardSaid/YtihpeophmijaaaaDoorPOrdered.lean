/- ScalarOrdered: Cmp is a total order, and values in normal form that fit are equal exactly where it returns 0; the card ties the listed package-level variables to the program text. -/
import Derived.Test.YtihpeophmijaaaaDoorRows
import Derived.Test.YtihpeophmijaaaaDoorCards
import Derived.Test.YtihpeophmijaaaaDoorTie
import Derived.SevenTiedAt
import Derived.Test.YtihpeophmijaaaaDoorLaid
import Derived.Test.YtihpeophmijaaaaDoorScLaw3
import Derived.Test.YtihpeophmijaaaaDoorOpenY
import Derived.Test.YtihpeophmijaaaaDoorGlobSc
import Derived.Lib.SmallJoins
import Derived.Test.YtihpeophmijaaaaDoorLawPost
import Derived.OpenShut
import Derived.ShutString
import Derived.SizedLaws
import Derived.ProofKit
import Derived.Stop.Joined
namespace Go.Proofs.YtihpeophmijaaaaDoor.scalarOrdered
open Go.ChangeShapes Go.WideShapes Go.ChangeAt Go.RowKit
open Go.ChangeMaps (open_string shut_string)

theorem own : ownKnob Tryd.prog.godebug = none := by kernel_rfl
theorem laid : laidOutB Tryd.prog = true := by kernel_rfl
theorem door_met (os : Os) (args : Array Value) : laidMetH Tryd.prog Rows.scalarOrderedRow.laid ((World.doorLaid Tryd.prog 400 os).forCall (fun _ _ => 0) ⟨#[], args, []⟩).memory :=
  laidMetH_of_parts3 (fuel := 8) (laidMet_of_run' 8 (by kernel_rfl) (by kernel_rfl)) (by kernel_rfl) (by kernel_rfl)
set_option maxRecDepth 100000 in
theorem lifted (os : Os) (started : os.Started) (H : Type) (enc : TypeId × Value → H) :
    ReturnsInHanded {} Tryd.checked os 6 .any (fun w args => (Rows.scalarOrderedSpec.pre enc Tryd.prog Tryd.f6 Rows.scalarOrderedRow.domain false w args ∧ laidMetH Tryd.prog Rows.scalarOrderedRow.laid w) ∧ sizedMet enc Tryd.prog Tryd.f6 (OpenSpec.ofChange Rows.scalarOrderedSpec) false w args)
      (Rows.scalarOrderedSpec.post enc Tryd.prog Tryd.f6 false true false false) := by
  refine returnsInHanded_of_change_and (C := Tryd.checked) (X := fun w _ => laidMetH Tryd.prog Rows.scalarOrderedRow.laid w) (fun _ _ _ hh h => h.of_heap hh) own started (by kernel_rfl) Tryd.func6
    (ChangeSpec.witness_shaped (enc := enc) (C := Tryd.checked) (os := os) (X := fun w _ => laidMetH Tryd.prog Rows.scalarOrderedRow.laid w) false (World.doorLaid Tryd.prog 400 os) #[.agg #[.int .i64 0, .int .u64 0, .string ByteArray.empty, .slice none 0 0, .slice none 0 0, .slice none 0 0, .slice none 0 0], .agg #[.int .i64 0, .int .u64 0, .string ByteArray.empty, .slice none 0 0, .slice none 0 0, .slice none 0 0, .slice none 0 0], .agg #[.int .i64 0, .int .u64 0, .string ByteArray.empty, .slice none 0 0, .slice none 0 0, .slice none 0 0, .slice none 0 0]] 8 rfl (World.shaped_of_RefB (by kernel_rfl) (by kernel_rfl)) (by kernel_rfl) (by kernel_rfl) (by kernel_rfl) (door_met os _)) ?_
  intro W base args ds gs before hval0 hW hcnd hsz hLL _
  have hL : laidMet Tryd.prog Rows.scalarOrderedRow.laid W := by rw [MakeChecks.laidMetH_plain _ _ _ (by kernel_rfl)] at hLL; exact hLL
  have hval : ∀ (j : Nat) t v, Tryd.f6.params[j]? = some t → args[j]? = some v → Value.okWide Tryd.prog W .any base t v := hval0
  have hW' := hW
  obtain ⟨p, q, hA0, hV, rfl, hfz, hnd⟩ := hW
  have hA : DataW.TrodAll enc Tryd.prog W 0 (fun _ => true) true Tryd.f6.params.toList args.toList ds p := hA0
  rw [Tryd.params6] at hA hval
  obtain ⟨v0, vs0, d0, ds0, p0, q0, hargs, rfl, rfl, h0, r0⟩ := trodAll_cons hA
  obtain ⟨v1, vs1, d1, ds1, p1, q1, rfl, rfl, rfl, h1, r1⟩ := trodAll_cons r0
  obtain ⟨v2, vs2, d2, ds2, p2, q2, rfl, rfl, rfl, h2, r2⟩ := trodAll_cons r1
  obtain ⟨rfl, rfl, rfl⟩ := trodAll_nil r2
  obtain rfl : args = #[v0, v1, v2] := by cases args; simp_all
  obtain ⟨rfl, rfl⟩ := trodVars_none hV
  obtain ⟨cs0, rfl, hk0_0⟩ := Y.open_struct Y.tok (t := 28) (ks := [.int .i64, .int .u64, .str, .slc, .slc, .slc, .slc]) rfl rfl (by kernel_rfl) (fun m hm => by have hz := List.all_eq_true.1 hsz _ (DataW.weights_mem_each (j := 0) (t := 28) (d := d0) (by rw [Tryd.params6]; rfl) rfl m hm); exact of_decide_eq_true hz) (hval 0 28 v0 rfl rfl) h0
  obtain ⟨_, _, rfl, ⟨c0_0, rfl, k0_0⟩, hk0_1⟩ := Y.okL_cons hk0_0
  obtain ⟨_, _, rfl, ⟨c0_1, rfl, k0_1⟩, hk0_2⟩ := Y.okL_cons hk0_1
  obtain ⟨_, _, rfl, ⟨c0_2, rfl, k0_2⟩, hk0_3⟩ := Y.okL_cons hk0_2
  obtain ⟨_, _, rfl, ⟨x0_3, n0_3, p0_3, rfl, k0_3⟩, hk0_4⟩ := Y.okL_cons hk0_3
  obtain ⟨_, _, rfl, ⟨x0_4, n0_4, p0_4, rfl, k0_4⟩, hk0_5⟩ := Y.okL_cons hk0_4
  obtain ⟨_, _, rfl, ⟨x0_5, n0_5, p0_5, rfl, k0_5⟩, hk0_6⟩ := Y.okL_cons hk0_5
  obtain ⟨_, _, rfl, ⟨x0_6, n0_6, p0_6, rfl, k0_6⟩, hk0_7⟩ := Y.okL_cons hk0_6
  obtain rfl := Y.okL_nil hk0_7
  have b0_0 : -9223372036854775808 ≤ c0_0 ∧ c0_0 ≤ 9223372036854775807 := by simpa [Lit.wf, IntKind.min, IntKind.max, IntKind.signed, IntKind.bits] using k0_0
  have b0_1 : 0 ≤ c0_1 ∧ c0_1 < 18446744073709551616 := by
    have hh := k0_1
    simp [Lit.wf, IntKind.min, IntKind.max, IntKind.signed, IntKind.bits] at hh
    omega
  obtain ⟨cs1, rfl, hk1_0⟩ := Y.open_struct Y.tok (t := 28) (ks := [.int .i64, .int .u64, .str, .slc, .slc, .slc, .slc]) rfl rfl (by kernel_rfl) (fun m hm => by have hz := List.all_eq_true.1 hsz _ (DataW.weights_mem_each (j := 1) (t := 28) (d := d1) (by rw [Tryd.params6]; rfl) rfl m hm); exact of_decide_eq_true hz) (hval 1 28 v1 rfl rfl) h1
  obtain ⟨_, _, rfl, ⟨c1_0, rfl, k1_0⟩, hk1_1⟩ := Y.okL_cons hk1_0
  obtain ⟨_, _, rfl, ⟨c1_1, rfl, k1_1⟩, hk1_2⟩ := Y.okL_cons hk1_1
  obtain ⟨_, _, rfl, ⟨c1_2, rfl, k1_2⟩, hk1_3⟩ := Y.okL_cons hk1_2
  obtain ⟨_, _, rfl, ⟨x1_3, n1_3, p1_3, rfl, k1_3⟩, hk1_4⟩ := Y.okL_cons hk1_3
  obtain ⟨_, _, rfl, ⟨x1_4, n1_4, p1_4, rfl, k1_4⟩, hk1_5⟩ := Y.okL_cons hk1_4
  obtain ⟨_, _, rfl, ⟨x1_5, n1_5, p1_5, rfl, k1_5⟩, hk1_6⟩ := Y.okL_cons hk1_5
  obtain ⟨_, _, rfl, ⟨x1_6, n1_6, p1_6, rfl, k1_6⟩, hk1_7⟩ := Y.okL_cons hk1_6
  obtain rfl := Y.okL_nil hk1_7
  have b1_0 : -9223372036854775808 ≤ c1_0 ∧ c1_0 ≤ 9223372036854775807 := by simpa [Lit.wf, IntKind.min, IntKind.max, IntKind.signed, IntKind.bits] using k1_0
  have b1_1 : 0 ≤ c1_1 ∧ c1_1 < 18446744073709551616 := by
    have hh := k1_1
    simp [Lit.wf, IntKind.min, IntKind.max, IntKind.signed, IntKind.bits] at hh
    omega
  obtain ⟨cs2, rfl, hk2_0⟩ := Y.open_struct Y.tok (t := 28) (ks := [.int .i64, .int .u64, .str, .slc, .slc, .slc, .slc]) rfl rfl (by kernel_rfl) (fun m hm => by have hz := List.all_eq_true.1 hsz _ (DataW.weights_mem_each (j := 2) (t := 28) (d := d2) (by rw [Tryd.params6]; rfl) rfl m hm); exact of_decide_eq_true hz) (hval 2 28 v2 rfl rfl) h2
  obtain ⟨_, _, rfl, ⟨c2_0, rfl, k2_0⟩, hk2_1⟩ := Y.okL_cons hk2_0
  obtain ⟨_, _, rfl, ⟨c2_1, rfl, k2_1⟩, hk2_2⟩ := Y.okL_cons hk2_1
  obtain ⟨_, _, rfl, ⟨c2_2, rfl, k2_2⟩, hk2_3⟩ := Y.okL_cons hk2_2
  obtain ⟨_, _, rfl, ⟨x2_3, n2_3, p2_3, rfl, k2_3⟩, hk2_4⟩ := Y.okL_cons hk2_3
  obtain ⟨_, _, rfl, ⟨x2_4, n2_4, p2_4, rfl, k2_4⟩, hk2_5⟩ := Y.okL_cons hk2_4
  obtain ⟨_, _, rfl, ⟨x2_5, n2_5, p2_5, rfl, k2_5⟩, hk2_6⟩ := Y.okL_cons hk2_5
  obtain ⟨_, _, rfl, ⟨x2_6, n2_6, p2_6, rfl, k2_6⟩, hk2_7⟩ := Y.okL_cons hk2_6
  obtain rfl := Y.okL_nil hk2_7
  have b2_0 : -9223372036854775808 ≤ c2_0 ∧ c2_0 ≤ 9223372036854775807 := by simpa [Lit.wf, IntKind.min, IntKind.max, IntKind.signed, IntKind.bits] using k2_0
  have b2_1 : 0 ≤ c2_1 ∧ c2_1 < 18446744073709551616 := by
    have hh := k2_1
    simp [Lit.wf, IntKind.min, IntKind.max, IntKind.signed, IntKind.bits] at hh
    omega
  clear hA0 hval0
  refine (Y.ordered_law c0_0 c0_1 c0_2 x0_3 x0_4 x0_5 x0_6 n0_3 p0_3 n0_4 p0_4 n0_5 p0_5 n0_6 p0_6 c1_0 c1_1 c1_2 x1_3 x1_4 x1_5 x1_6 n1_3 p1_3 n1_4 p1_4 n1_5 p1_5 n1_6 p1_6 c2_0 c2_1 c2_2 x2_3 x2_4 x2_5 x2_6 n2_3 p2_3 n2_4 p2_4 n2_5 p2_5 n2_6 p2_6 W ⟨by omega, by omega, by omega, by omega⟩ b0_1 (by omega) ⟨by omega, by omega, by omega, by omega⟩ b1_1 (by omega) b2_1 (Y.gs_of_laid hL (by simp [Rows.scalarOrderedRow]) (by simp [Rows.scalarOrderedRow]) (by simp [Rows.scalarOrderedRow]) (by simp [Rows.scalarOrderedRow]))).mono fun e W' ⟨he, hb⟩ => ?_
  subst he
  exact ⟨_, rfl, law_post laid hW' hb (by kernel_rfl) (by kernel_rfl) rfl Tryd.underlying4 rfl rfl rfl⟩

theorem row_holds : Rows.ScalarOrderedSaid :=
  OpenClaim.holds_of_wide 6 Tryd.f6 rfl rfl rfl rfl rfl rfl rfl ⟨rfl, rfl, rfl, rfl, rfl⟩ rfl rfl rfl rfl rfl (by kernel_rfl) Tryd.func6 (by kernel_rfl)
    (of_decide_eq_true (by kernel_rfl)) (by unfold Func.isWrapper; first | (rw [if_pos (by decide +kernel)]; kernel_rfl) | (rw [if_neg (by decide +kernel)]; exact ⟨rfl, rfl⟩))
    (fun os started H enc _ => lifted os started H enc)
/-- THE STATEMENT: the tied card. -/
theorem proved : Rows.ScalarOrderedCardSaid :=
  Claim7.holds_tied_plain_at .later [] [.data, .data, .data, .sentinel, .sentinel] true (true, "6ff9fb4a89ec55dee1c36cbdc0e5a5d9471b8e8e3a002d3e9e060af10427c3c1") true
    row_holds (fun _ h => by cases h) (by kernel_rfl) (fun _ h => by cases h) scalarOrdered_row_tie rfl ⟨rfl, rfl⟩ (by kernel_rfl) rfl
    (fun f fn hf hfn => by
      obtain rfl : f = 6 := Option.some.inj ((show Tryd.prog.funcNamed "wireschema/wireschemalaw04.ScalarOrdered" = some 6 by kernel_rfl).symm.trans hf) |>.symm
      obtain rfl : fn = Tryd.f6 := (Option.some.inj (Tryd.func6.symm.trans hfn)).symm
      exact ⟨by kernel_rfl, fun j t ht => by
        rw [Tryd.params6] at ht
        have hm := Array.mem_of_getElem? ht
        have hall : (Tryd.f6.params.toList.all fun u => !Tryd.prog.wantsStandIn u) = true := by kernel_rfl
        rw [Tryd.params6] at hall
        exact (show Tryd.prog.wantsStandIn t = false by simpa using List.all_eq_true.1 hall t (by simpa using hm))⟩)
    (by kernel_rfl)
end Go.Proofs.YtihpeophmijaaaaDoor.scalarOrdered
