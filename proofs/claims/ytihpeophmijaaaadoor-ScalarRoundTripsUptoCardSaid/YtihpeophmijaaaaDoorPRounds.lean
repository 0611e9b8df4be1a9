/- ScalarRoundTrips: a scalar value in normal form is read again from its text, and no other text is accepted; the card ties the listed package-level variables to the program text. -/
import Derived.Test.YtihpeophmijaaaaDoorRows
import Derived.Test.YtihpeophmijaaaaDoorCards
import Derived.Test.YtihpeophmijaaaaDoorTie
import Derived.SevenTiedAt
import Derived.Test.YtihpeophmijaaaaDoorLaid
import Derived.Test.YtihpeophmijaaaaDoorScRt
import Derived.Test.YtihpeophmijaaaaDoorOpenY
import Derived.Test.YtihpeophmijaaaaDoorGlobSc
import Derived.Lib.SmallJoins
import Derived.Test.YtihpeophmijaaaaDoorLawPost
import Derived.OpenShut
import Derived.JoinedCond
import Derived.Deep.DeepHandedRow
import Derived.Deep.DeepWitnessRowRef
import Derived.ShutString
import Derived.SizedLaws
import Derived.ProofKit
import Derived.Stop.Joined
namespace Go.Proofs.YtihpeophmijaaaaDoor.scalarRoundTrips
open Go.ChangeShapes Go.WideShapes Go.ChangeAt Go.RowKit
open Go.ChangeMaps (open_string shut_string)

theorem own : ownKnob Tryd.prog.godebug = none := by kernel_rfl
theorem laid : laidOutB Tryd.prog = true := by kernel_rfl
theorem door_met (os : Os) (args : Array Value) : laidMetH Tryd.prog Rows.scalarRoundTripsUptoRow.laid ((World.doorLaid Tryd.prog 400 os).forCall (fun _ _ => 0) ⟨#[], args, []⟩).memory :=
  laidMetH_of_parts3 (fuel := 8) (laidMet_of_run' 8 (by kernel_rfl) (by kernel_rfl)) (by kernel_rfl) (by kernel_rfl)
theorem reads (os : Os) {H : Type} (enc : TypeId × Value → H) : ∃ places, DataW.whole enc Tryd.prog ((World.doorLaid Tryd.prog 400 os).forCall (fun _ _ => 0) ⟨#[], #[.agg #[.int .i64 0, .int .u64 0, .string ByteArray.empty, .slice none 0 0, .slice none 0 0, .slice none 0 0, .slice none 0 0], .int .i64 0, .string ByteArray.empty], []⟩).memory Tryd.f4.params.toList Rows.scalarRoundTripsSpec.vars false (#[.agg #[.int .i64 0, .int .u64 0, .string ByteArray.empty, .slice none 0 0, .slice none 0 0, .slice none 0 0, .slice none 0 0], .int .i64 0, .string ByteArray.empty] : Array Value).toList 8 = some ([.agg [.lit (.int .i64 0), .lit (.int .u64 0), .lit (.string []), .nil, .nil, .nil, .nil], .lit (.int .i64 0), .lit (.string [])], [], places) :=
  ⟨[], by kernel_rfl⟩
set_option maxRecDepth 100000 in
theorem lifted (os : Os) (started : os.Started) (H : Type) (enc : TypeId × Value → H) (F : Stop.Interp) :
    ReturnsInHanded {} Tryd.checked os 4 .any ((Rows.OpenSpec.upto Rows.scalarRoundTripsSpec).preRow enc Tryd.prog Tryd.f4 Rows.scalarRoundTripsUptoRow.domain false Rows.scalarRoundTripsUptoRow.laid) (((Rows.OpenSpec.upto Rows.scalarRoundTripsSpec).at F).post enc Tryd.prog Tryd.f4 false true false false) := by
  obtain ⟨places, hx⟩ := reads os enc
  refine returnsInHanded_of_row (C := Tryd.checked) (s := Rows.OpenSpec.upto Rows.scalarRoundTripsSpec) own started (by kernel_rfl) Tryd.func4
    (witness_row_atRef (enc := enc) (C := Tryd.checked) false (World.doorLaid Tryd.prog 400 os) #[.agg #[.int .i64 0, .int .u64 0, .string ByteArray.empty, .slice none 0 0, .slice none 0 0, .slice none 0 0, .slice none 0 0], .int .i64 0, .string ByteArray.empty] rfl (by kernel_rfl) (by kernel_rfl) (by kernel_rfl)
      (OpenSpec.preRow_of_cond 8 hx (by kernel_rfl) (fun k hk => by cases hk; kernel_rfl) (by kernel_rfl) (by have h := door_met os #[.agg #[.int .i64 0, .int .u64 0, .string ByteArray.empty, .slice none 0 0, .slice none 0 0, .slice none 0 0, .slice none 0 0], .int .i64 0, .string ByteArray.empty]; rw [MakeChecks.laidMetH_plain _ _ _ (by kernel_rfl)] at h; exact h))) ?_
  intro W base args ds gs before hval0 hW _ hcond hsz hLL _ _
  have hL : laidMet Tryd.prog Rows.scalarRoundTripsUptoRow.laid W := by rw [MakeChecks.laidMetH_plain _ _ _ (by kernel_rfl)] at hLL; exact hLL
  have hval : ∀ (j : Nat) t v, Tryd.f4.params[j]? = some t → args[j]? = some v → Value.okWide Tryd.prog W .any base t v := hval0
  have hW' := hW
  obtain ⟨p, q, hA0, hV, rfl, hfz, hnd⟩ := hW
  have hA : DataW.TrodAll enc Tryd.prog W 0 (fun _ => true) true Tryd.f4.params.toList args.toList ds p := hA0
  rw [Tryd.params4] at hA hval
  obtain ⟨v0, vs0, d0, ds0, p0, q0, hargs, rfl, rfl, h0, r0⟩ := trodAll_cons hA
  obtain ⟨v1, vs1, d1, ds1, p1, q1, rfl, rfl, rfl, h1, r1⟩ := trodAll_cons r0
  obtain ⟨v2, vs2, d2, ds2, p2, q2, rfl, rfl, rfl, h2, r2⟩ := trodAll_cons r1
  obtain ⟨rfl, rfl, rfl⟩ := trodAll_nil r2
  obtain rfl : args = #[v0, v1, v2] := by cases args; simp_all
  obtain ⟨rfl, rfl⟩ := trodVars_none hV
  obtain ⟨cs0, rfl, hk0_0⟩ := Y.open_struct Y.tok (t := 28) (ks := [.int .i64, .int .u64, .str, .slc, .slc, .slc, .slc]) rfl rfl (by kernel_rfl) (fun m hm => by have hz := List.all_eq_true.1 hsz _ (DataW.weights_mem_each (j := 0) (t := 28) (d := d0) (by rw [Tryd.params4]; rfl) rfl m hm); exact of_decide_eq_true hz) (hval 0 28 v0 rfl rfl) h0
  obtain ⟨_, _, rfl, ⟨c0_0, rfl, k0_0⟩, hk0_1⟩ := Y.okL_cons hk0_0
  obtain ⟨_, _, rfl, ⟨c0_1, rfl, k0_1⟩, hk0_2⟩ := Y.okL_cons hk0_1
  obtain ⟨_, _, rfl, ⟨c0_2, rfl, k0_2⟩, hk0_3⟩ := Y.okL_cons hk0_2
  obtain ⟨_, _, rfl, ⟨x0_3, n0_3, p0_3, rfl, k0_3⟩, hk0_4⟩ := Y.okL_cons hk0_3
  obtain ⟨_, _, rfl, ⟨x0_4, n0_4, p0_4, rfl, k0_4⟩, hk0_5⟩ := Y.okL_cons hk0_4
  obtain ⟨_, _, rfl, ⟨x0_5, n0_5, p0_5, rfl, k0_5⟩, hk0_6⟩ := Y.okL_cons hk0_5
  obtain ⟨_, _, rfl, ⟨x0_6, n0_6, p0_6, rfl, k0_6⟩, hk0_7⟩ := Y.okL_cons hk0_6
  obtain rfl := Y.okL_nil hk0_7
  have b0_0 : -9223372036854775808 ≤ c0_0 ∧ c0_0 ≤ 9223372036854775807 := by simpa [Lit.wf, IntKind.min, IntKind.max, IntKind.signed, IntKind.bits] using k0_0
  have b0_1 : 0 ≤ c0_1 ∧ c0_1 < 18446744073709551616 := by
    have hh := k0_1
    simp [Lit.wf, IntKind.min, IntKind.max, IntKind.signed, IntKind.bits] at hh
    omega
  obtain ⟨a1, rfl, rfl, rfl, w1⟩ := open_int Tryd.underlying3 (hval 1 3 v1 rfl rfl) h1
  have u1 : (-9223372036854775808 : Int) ≤ a1 ∧ a1 ≤ 9223372036854775807 := by simpa [Lit.wf, IntKind.min, IntKind.max, IntKind.signed, IntKind.bits] using w1
  obtain ⟨a2, rfl, rfl, rfl, w2⟩ := open_string Tryd.underlying9 (hval 2 9 v2 rfl rfl) h2
  have z2 : a2.size ≤ 140737488351232 := by
    have hz := sized_string hsz (j := 2) (t := 9) (bytes := a2.data.toList) (by rw [Tryd.params4]; rfl) rfl
    simpa [reachBytes] using hz
  clear hA0 hval0
  have hk := of_decide_eq_true (hcond _ rfl)
  simp only [Rows.uptoBulkAll, Rows.uptoBulk, List.append_nil] at hk
  have hk2 : a2.data.toList.length = a2.size := by rw [Array.length_toList]; rfl
  obtain ⟨u, rfl⟩ : ∃ u : Nat, c0_1 = (u : Int) := ⟨c0_1.toNat, by omega⟩
  refine (Y.round_law c0_0 u c0_2 x0_3 x0_4 x0_5 x0_6 n0_3 p0_3 n0_4 p0_4 n0_5 p0_5 n0_6 p0_6 a1 a2 W (by omega) ⟨by omega, by omega, by omega, by omega⟩ (by omega) (by omega) (Y.gs_of_laid hL (by simp [Rows.scalarRoundTripsUptoRow]) (by simp [Rows.scalarRoundTripsUptoRow]) (by simp [Rows.scalarRoundTripsUptoRow]) (by simp [Rows.scalarRoundTripsUptoRow]))).mono fun e W' ⟨he, hb⟩ => ?_
  subst he
  exact ⟨_, rfl, law_post laid hW' hb (by kernel_rfl) (by kernel_rfl) rfl Tryd.underlying4 rfl rfl rfl⟩

theorem row_holds : Rows.ScalarRoundTripsUptoSaid :=
  OpenClaim.holds_of_cond 4 Tryd.f4 rfl rfl rfl rfl rfl rfl rfl ⟨rfl, rfl, rfl, rfl, rfl⟩ rfl rfl rfl rfl rfl (by kernel_rfl) Tryd.func4 (by kernel_rfl)
    (of_decide_eq_true (by kernel_rfl)) (by unfold Func.isWrapper; first | (rw [if_pos (by decide +kernel)]; kernel_rfl) | (rw [if_neg (by decide +kernel)]; exact ⟨rfl, rfl⟩))
    (fun os started H enc _ F => by rw [OpenClaim.pre_eq_preRow]; exact lifted os started H enc F)
/-- THE STATEMENT: the tied card. -/
theorem proved : Rows.ScalarRoundTripsUptoCardSaid :=
  Claim7.holds_tied_plain_at .later [] [.data, .data, .data, .sentinel, .sentinel] true (true, "6ff9fb4a89ec55dee1c36cbdc0e5a5d9471b8e8e3a002d3e9e060af10427c3c1") true
    row_holds (fun _ h => by cases h) (by kernel_rfl) (fun _ h => by cases h) scalarRoundTripsUpto_row_tie rfl ⟨rfl, rfl⟩ (by kernel_rfl) rfl
    (fun f fn hf hfn => by
      obtain rfl : f = 4 := Option.some.inj ((show Tryd.prog.funcNamed "wireschema/wireschemalaw04.ScalarRoundTrips" = some 4 by kernel_rfl).symm.trans hf) |>.symm
      obtain rfl : fn = Tryd.f4 := (Option.some.inj (Tryd.func4.symm.trans hfn)).symm
      exact ⟨by kernel_rfl, fun j t ht => by
        rw [Tryd.params4] at ht
        have hm := Array.mem_of_getElem? ht
        have hall : (Tryd.f4.params.toList.all fun u => !Tryd.prog.wantsStandIn u) = true := by kernel_rfl
        rw [Tryd.params4] at hall
        exact (show Tryd.prog.wantsStandIn t = false by simpa using List.all_eq_true.1 hall t (by simpa using hm))⟩)
    (by kernel_rfl)
end Go.Proofs.YtihpeophmijaaaaDoor.scalarRoundTrips
