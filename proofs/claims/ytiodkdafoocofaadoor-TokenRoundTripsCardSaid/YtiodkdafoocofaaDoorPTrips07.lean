/- TokenRoundTrips: tokens are read again from their text (up to 300 tokens with up to 6000 bytes in all, or one token); the card ties the listed package-level variables to the program text. -/
import Derived.Test.YtiodkdafoocofaaDoorRows
import Derived.Test.YtiodkdafoocofaaDoorCards
import Derived.Test.YtiodkdafoocofaaDoorTie
import Derived.SevenTiedAt
import Derived.Test.YtiodkdafoocofaaDoorLaid
import Derived.Lay
import Derived.Test.YtiodkdafoocofaaDoorTokD
import Derived.Test.YtiodkdafoocofaaDoorTokIn
import Derived.Test.YtiodkdafoocofaaDoorShaped
import Derived.Lib.SmallJoins
import Derived.Test.YtiodkdafoocofaaDoorLawPost
import Derived.OpenShut
import Derived.ShutString
import Derived.SizedLaws
import Derived.ProofKit
import Derived.Stop.Joined
namespace Go.Proofs.YtiodkdafoocofaaDoor.tokenRoundTrips
open Go.ChangeShapes Go.WideShapes Go.ChangeAt Go.RowKit
open Go.ChangeMaps (open_string shut_string)

theorem own : ownKnob Tryd.prog.godebug = none := by kernel_rfl
theorem laid : laidOutB Tryd.prog = true := by kernel_rfl
set_option maxRecDepth 100000 in
theorem lifted (os : Os) (started : os.Started) (H : Type) (enc : TypeId × Value → H) :
    ReturnsInHanded {} Tryd.checked os 4 .any (fun w args => (Rows.tokenRoundTripsSpec.pre enc Tryd.prog Tryd.f4 Rows.tokenRoundTripsRow.domain false w args ∧ laidMetH Tryd.prog Rows.tokenRoundTripsRow.laid w) ∧ sizedMet enc Tryd.prog Tryd.f4 (OpenSpec.ofChange Rows.tokenRoundTripsSpec) false w args)
      (Rows.tokenRoundTripsSpec.post enc Tryd.prog Tryd.f4 false true false false) := by
  refine handed_and_shape (C := Tryd.checked) (X := fun w _ => laidMetH Tryd.prog Rows.tokenRoundTripsRow.laid w) (fun _ _ _ hh h => h.of_heap hh) own started (by kernel_rfl) Tryd.func4
    (ChangeSpec.witness_shaped (enc := enc) (C := Tryd.checked) (os := os) (X := fun w _ => laidMetH Tryd.prog Rows.tokenRoundTripsRow.laid w) false (World.laidAll Tryd.prog os Rows.tokenRoundTripsRow.laid) #[.slice none 0 0] 8 (World.laidAll_os _ _ _) (World.shaped_of_ZipB (by kernel_rfl) (by kernel_rfl)) (by kernel_rfl) (by kernel_rfl) (by kernel_rfl) (by rw [MakeChecks.laidMetH_plain _ _ _ (by kernel_rfl)]; exact laidMet_laidAll _ (by kernel_rfl) (by kernel_rfl))) ?_
  intro W base args ds gs before hval0 hW hsz hLL hSh
  have hL : laidMet Tryd.prog Rows.tokenRoundTripsRow.laid W := by rw [MakeChecks.laidMetH_plain _ _ _ (by kernel_rfl)] at hLL; exact hLL
  have hval : ∀ (j : Nat) t v, Tryd.f4.params[j]? = some t → args[j]? = some v → Value.okWide Tryd.prog W .any base t v := hval0
  have hW' := hW
  obtain ⟨p, q, hA0, hV, rfl, hfz, hnd⟩ := hW
  have hA : DataW.TrodAll enc Tryd.prog W 0 (fun _ => true) true Tryd.f4.params.toList args.toList ds p := hA0
  rw [Tryd.params4] at hA hval
  obtain ⟨v0, vs0, d0, ds0, p0, q0, hargs, rfl, rfl, h0, r0⟩ := trodAll_cons hA
  obtain ⟨rfl, rfl, rfl⟩ := trodAll_nil r0
  obtain rfl : args = #[v0] := by cases args; simp_all
  obtain ⟨rfl, rfl⟩ := trodVars_none hV
  obtain ⟨x0, n0, cap0, rfl, l0, q0⟩ := Y.open_rows Y.tok (t := 22) (ks := [.int .i64, .str, .int .i64, .int .i64]) rfl rfl rfl rfl (by kernel_rfl) (fun m hm => by have hz := List.all_eq_true.1 hsz _ (DataW.weights_mem_each (j := 0) (t := 22) (d := d0) (by rw [Tryd.params4]; rfl) rfl m hm); exact of_decide_eq_true hz) (hval 0 22 v0 rfl rfl) h0
  clear hA0 hval0
  obtain ⟨tk0, hl0, ht0, hn0⟩ := Y.rows_tk q0
  subst hl0
  refine (Y.trips_law tk0 x0 cap0 W ht0 (by omega) hn0 ⟨Y.gs_of_laid hL (by simp [Rows.tokenRoundTripsRow]) (by simp [Rows.tokenRoundTripsRow]) (by simp [Rows.tokenRoundTripsRow]) (by simp [Rows.tokenRoundTripsRow]), mlen_of hSh⟩).mono fun e W' ⟨he, hb⟩ => ?_
  subst he
  exact ⟨_, rfl, law_post laid hW' hb (by kernel_rfl) (by kernel_rfl) rfl Tryd.underlying4 rfl rfl rfl⟩

theorem row_holds : Rows.TokenRoundTripsSaid :=
  OpenClaim.holds_of_wide 4 Tryd.f4 rfl rfl rfl rfl rfl rfl rfl ⟨rfl, rfl, rfl, rfl, rfl⟩ rfl rfl rfl rfl rfl (by kernel_rfl) Tryd.func4 (by kernel_rfl)
    (of_decide_eq_true (by kernel_rfl)) (by unfold Func.isWrapper; first | (rw [if_pos (by decide +kernel)]; kernel_rfl) | (rw [if_neg (by decide +kernel)]; exact ⟨rfl, rfl⟩))
    (fun os started H enc _ => lifted os started H enc)
/-- THE STATEMENT: the tied card. -/
theorem proved : Rows.TokenRoundTripsCardSaid :=
  Claim7.holds_tied_plain_at .later [] [.data, .data, .data, .data, .sentinel, .sentinel, .pinned] true (true, "9369b32a508a23ca299a458aaf2852366fca8422cb1c5949e37c60c1fb5ead5b") true
    row_holds (fun _ h => by cases h) (by kernel_rfl) (fun _ h => by cases h) tokenRoundTrips_row_tie rfl ⟨rfl, rfl⟩ (by kernel_rfl) rfl
    (fun f fn hf hfn => by
      obtain rfl : f = 4 := Option.some.inj ((show Tryd.prog.funcNamed "wireschema/wireschemalaw07.TokenRoundTrips" = some 4 by kernel_rfl).symm.trans hf) |>.symm
      obtain rfl : fn = Tryd.f4 := (Option.some.inj (Tryd.func4.symm.trans hfn)).symm
      exact ⟨by kernel_rfl, fun j t ht => by
        rw [Tryd.params4] at ht
        have hm := Array.mem_of_getElem? ht
        have hall : (Tryd.f4.params.toList.all fun u => !Tryd.prog.wantsStandIn u) = true := by kernel_rfl
        rw [Tryd.params4] at hall
        exact (show Tryd.prog.wantsStandIn t = false by simpa using List.all_eq_true.1 hall t (by simpa using hm))⟩)
    (by kernel_rfl)
end Go.Proofs.YtiodkdafoocofaaDoor.tokenRoundTrips
