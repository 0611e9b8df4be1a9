/- FrameChecks: Check, Write and Text of any frame are those of the specification (the law itself asks nothing beyond 20000 bytes of data); the card ties the listed package-level variables to the program text. -/
import Derived.Test.YtpfkddbhpoeknaaGreatDoorRows
import Derived.Test.YtpfkddbhpoeknaaGreatDoorCards
import Derived.Test.YtpfkddbhpoeknaaGreatDoorTie
import Derived.SevenTiedAt
import Derived.Test.YtpfkddbhpoeknaaGreatDoorLaid
import Derived.Lay
import Derived.Test.YtpfkddbhpoeknaaGreatDoorTxt44
import Derived.Test.YtpfkddbhpoeknaaGreatDoorGl
import Derived.Test.YtpfkddbhpoeknaaGreatDoorShaped
import Derived.Lib.SmallJoins
import Derived.Test.YtpfkddbhpoeknaaGreatDoorLawPost
import Derived.OpenShut
import Derived.ShutString
import Derived.SizedLaws
import Derived.ProofKit
import Derived.Stop.Joined
namespace Go.Proofs.YtpfkddbhpoeknaaGreatDoor.frameChecks
open Go.ChangeShapes Go.WideShapes Go.ChangeAt Go.RowKit
open Go.ChangeMaps (open_string shut_string)

theorem own : ownKnob Tryz.prog.godebug = none := by kernel_rfl
theorem laid : laidOutB Tryz.prog = true := by kernel_rfl
set_option maxRecDepth 100000 in
theorem lifted (os : Os) (started : os.Started) (H : Type) (enc : TypeId × Value → H) :
    ReturnsInHanded {} Tryz.checked os 3 .any (fun w args => (Rows.frameChecksSpec.pre enc Tryz.prog Tryz.f3 Rows.frameChecksRow.domain false w args ∧ laidMetH Tryz.prog Rows.frameChecksRow.laid w) ∧ sizedMet enc Tryz.prog Tryz.f3 (OpenSpec.ofChange Rows.frameChecksSpec) false w args)
      (Rows.frameChecksSpec.post enc Tryz.prog Tryz.f3 false true false false) := by
  refine handed_and_shape (C := Tryz.checked) (X := fun w _ => laidMetH Tryz.prog Rows.frameChecksRow.laid w) (fun _ _ _ hh h => h.of_heap hh) own started (by kernel_rfl) Tryz.func3
    (ChangeSpec.witness_shaped (enc := enc) (C := Tryz.checked) (os := os) (X := fun w _ => laidMetH Tryz.prog Rows.frameChecksRow.laid w) false (World.laidAll Tryz.prog os Rows.frameChecksRow.laid) #[.agg #[.int .i64 0, .int .i64 0, .int .i64 0, .string ByteArray.empty]] 8 (World.laidAll_os _ _ _) (World.shaped_of_ZipB (by kernel_rfl) (by kernel_rfl)) (by kernel_rfl) (by kernel_rfl) (by kernel_rfl) (by rw [MakeChecks.laidMetH_plain _ _ _ (by kernel_rfl)]; exact laidMet_laidAll _ (by kernel_rfl) (by kernel_rfl))) ?_
  intro W base args ds gs before hval0 hW hsz hLL hSh
  have hL : laidMet Tryz.prog Rows.frameChecksRow.laid W := by rw [MakeChecks.laidMetH_plain _ _ _ (by kernel_rfl)] at hLL; exact hLL
  have hval : ∀ (j : Nat) t v, Tryz.f3.params[j]? = some t → args[j]? = some v → Value.okWide Tryz.prog W .any base t v := hval0
  have hW' := hW
  obtain ⟨p, q, hA0, hV, rfl, hfz, hnd⟩ := hW
  have hA : DataW.TrodAll enc Tryz.prog W 0 (fun _ => true) true Tryz.f3.params.toList args.toList ds p := hA0
  rw [Tryz.params3] at hA hval
  obtain ⟨v0, vs0, d0, ds0, p0, q0, hargs, rfl, rfl, h0, r0⟩ := trodAll_cons hA
  obtain ⟨rfl, rfl, rfl⟩ := trodAll_nil r0
  obtain rfl : args = #[v0] := by cases args; simp_all
  obtain ⟨rfl, rfl⟩ := trodVars_none hV
  obtain ⟨b00, b01, b02, b03, y00, y01, y02, y03, m0, rfl, rfl, rfl, t00, t01, t02, t03⟩ := Joins.open_agg4 Tryz.underlying23 (by kernel_rfl) (by kernel_rfl) (hval 0 23 v0 rfl rfl) h0
  obtain ⟨c00, e00, _, k00⟩ := DataW.trod_int Tryz.underlying3 t00
  obtain ⟨c01, e01, _, k01⟩ := DataW.trod_int Tryz.underlying3 t01
  obtain ⟨c02, e02, _, k02⟩ := DataW.trod_int Tryz.underlying3 t02
  obtain ⟨s0, e03, x03, k03⟩ := DataW.trod_string Tryz.underlying9 t03
  obtain rfl : b00 = .int .i64 c00 := by simpa using e00
  obtain rfl : b01 = .int .i64 c01 := by simpa using e01
  obtain rfl : b02 = .int .i64 c02 := by simpa using e02
  obtain rfl : b03 = .string s0 := by simpa using e03
  clear hA0 hval0
  have h1 : -9223372036854775808 ≤ c01 ∧ c01 ≤ 9223372036854775807 := by simpa [Lit.wf, IntKind.min, IntKind.max, IntKind.signed, IntKind.bits] using k01
  have h2 : -9223372036854775808 ≤ c02 ∧ c02 ≤ 9223372036854775807 := by simpa [Lit.wf, IntKind.min, IntKind.max, IntKind.signed, IntKind.bits] using k02
  refine (Y.checks_law ⟨c00, c01, c02, s0⟩ W h1 h2 (mlen_of hSh) (Y.tab_of_laid hL (by simp [Rows.frameChecksRow]))).mono fun e W' ⟨he, hb⟩ => ?_
  subst he
  exact ⟨_, rfl, law_post laid hW' hb (by kernel_rfl) (by kernel_rfl) rfl Tryz.underlying4 rfl rfl rfl⟩

theorem row_holds : Rows.FrameChecksSaid :=
  OpenClaim.holds_of_wide 3 Tryz.f3 rfl rfl rfl rfl rfl rfl rfl ⟨rfl, rfl, rfl, rfl, rfl⟩ rfl rfl rfl rfl rfl (by kernel_rfl) Tryz.func3 (by kernel_rfl)
    (of_decide_eq_true (by kernel_rfl)) (by unfold Func.isWrapper; first | (rw [if_pos (by decide +kernel)]; kernel_rfl) | (rw [if_neg (by decide +kernel)]; exact ⟨rfl, rfl⟩))
    (fun os started H enc _ => lifted os started H enc)
/-- THE STATEMENT: the tied card. -/
theorem proved : Rows.FrameChecksCardSaid :=
  Claim7.holds_tied_plain_at .later [] [.data, .data, .data, .data, .pinned] true (true, "d7ca9086e370a2320f2530863bb4e20553a6e19caf36eb85a7f96deec4c840f8") false
    row_holds (fun _ h => by cases h) (by kernel_rfl) (fun _ h => by cases h) frameChecks_row_tie rfl ⟨rfl, rfl⟩ (by kernel_rfl) rfl
    (fun f fn hf hfn => by
      obtain rfl : f = 3 := Option.some.inj ((show Tryz.prog.funcNamed "wireschema/wireschemalaw44.FrameChecks" = some 3 by kernel_rfl).symm.trans hf) |>.symm
      obtain rfl : fn = Tryz.f3 := (Option.some.inj (Tryz.func3.symm.trans hfn)).symm
      exact ⟨by kernel_rfl, fun j t ht => by
        rw [Tryz.params3] at ht
        have hm := Array.mem_of_getElem? ht
        have hall : (Tryz.f3.params.toList.all fun u => !Tryz.prog.wantsStandIn u) = true := by kernel_rfl
        rw [Tryz.params3] at hall
        exact (show Tryz.prog.wantsStandIn t = false by simpa using List.all_eq_true.1 hall t (by simpa using hm))⟩)
    (by kernel_rfl)
end Go.Proofs.YtpfkddbhpoeknaaGreatDoor.frameChecks
