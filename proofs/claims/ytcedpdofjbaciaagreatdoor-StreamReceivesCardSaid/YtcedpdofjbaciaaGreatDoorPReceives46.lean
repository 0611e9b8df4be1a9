/- StreamReceives: Receive of any frame on any stream is that of the reference (the law itself asks nothing of data or texts beyond 20000 bytes); the card ties the listed package-level variables to the program text. -/
import Derived.Test.YtcedpdofjbaciaaGreatDoorRows
import Derived.Test.YtcedpdofjbaciaaGreatDoorCards
import Derived.Test.YtcedpdofjbaciaaGreatDoorTie
import Derived.SevenTiedAt
import Derived.Test.YtcedpdofjbaciaaGreatDoorLaid
import Derived.Lay
import Derived.Test.YtcedpdofjbaciaaGreatDoorLaw46z
import Derived.Test.YtcedpdofjbaciaaGreatDoorSxOpen
import Derived.Test.YtcedpdofjbaciaaGreatDoorShaped
import Derived.Lib.SmallJoins
import Derived.Test.YtcedpdofjbaciaaGreatDoorLawPost
import Derived.OpenShut
import Derived.ShutString
import Derived.SizedLaws
import Derived.ProofKit
import Derived.Stop.Joined
namespace Go.Proofs.YtcedpdofjbaciaaGreatDoor.streamReceives
open Go.ChangeShapes Go.WideShapes Go.ChangeAt Go.RowKit
open Go.ChangeMaps (open_string shut_string)

theorem own : ownKnob Tryz.prog.godebug = none := by kernel_rfl
theorem laid : laidOutB Tryz.prog = true := by kernel_rfl
set_option maxRecDepth 100000 in
theorem lifted (os : Os) (started : os.Started) (H : Type) (enc : TypeId × Value → H) :
    ReturnsInHanded {} Tryz.checked os 4 .any (fun w args => (Rows.streamReceivesSpec.pre enc Tryz.prog Tryz.f4 Rows.streamReceivesRow.domain false w args ∧ laidMetH Tryz.prog Rows.streamReceivesRow.laid w) ∧ sizedMet enc Tryz.prog Tryz.f4 (OpenSpec.ofChange Rows.streamReceivesSpec) false w args)
      (Rows.streamReceivesSpec.post enc Tryz.prog Tryz.f4 false true false false) := by
  refine handed_and_shape (C := Tryz.checked) (X := fun w _ => laidMetH Tryz.prog Rows.streamReceivesRow.laid w) (fun _ _ _ hh h => h.of_heap hh) own started (by kernel_rfl) Tryz.func4
    (ChangeSpec.witness_shaped (enc := enc) (C := Tryz.checked) (os := os) (X := fun w _ => laidMetH Tryz.prog Rows.streamReceivesRow.laid w) false (World.laidAll Tryz.prog os Rows.streamReceivesRow.laid) #[.agg #[.int .i64 0, .int .i64 0, .int .i64 0, .int .i64 0, .int .i64 0, .bool false, .bool false, .bool false, .int .i64 0, .string ByteArray.empty, .int .i64 0, .int .i64 0, .int .i64 0, .int .i64 0, .int .i64 0, .int .i64 0], .agg #[.int .i64 0, .int .i64 0, .int .i64 0, .string ByteArray.empty]] 8 (World.laidAll_os _ _ _) (World.shaped_of_ZipB (by kernel_rfl) (by kernel_rfl)) (by kernel_rfl) (by kernel_rfl) (by kernel_rfl) (by rw [MakeChecks.laidMetH_plain _ _ _ (by kernel_rfl)]; exact laidMet_laidAll _ (by kernel_rfl) (by kernel_rfl))) ?_
  intro W base args ds gs before hval0 hW hsz hLL hSh
  have _hL : laidMet Tryz.prog Rows.streamReceivesRow.laid W := by rw [MakeChecks.laidMetH_plain _ _ _ (by kernel_rfl)] at hLL; exact hLL
  have hval : ∀ (j : Nat) t v, Tryz.f4.params[j]? = some t → args[j]? = some v → Value.okWide Tryz.prog W .any base t v := hval0
  have hW' := hW
  obtain ⟨p, q, hA0, hV, rfl, hfz, hnd⟩ := hW
  have hA : DataW.TrodAll enc Tryz.prog W 0 (fun _ => true) true Tryz.f4.params.toList args.toList ds p := hA0
  rw [Tryz.params4] at hA hval
  obtain ⟨v0, vs0, d0, ds0, p0, q0, hargs, rfl, rfl, h0, r0⟩ := trodAll_cons hA
  obtain ⟨v1, vs1, d1, ds1, p1, q1, rfl, rfl, rfl, h1, r1⟩ := trodAll_cons r0
  obtain ⟨rfl, rfl, rfl⟩ := trodAll_nil r1
  obtain rfl : args = #[v0, v1] := by cases args; simp_all
  obtain ⟨rfl, rfl⟩ := trodVars_none hV
  obtain ⟨cs0, rfl, hk0_0⟩ := open_struct tok (t := 27) (ks := [.int .i64, .int .i64, .int .i64, .int .i64, .int .i64, .bool, .bool, .bool, .int .i64, .str, .int .i64, .int .i64, .int .i64, .int .i64, .int .i64, .int .i64]) rfl rfl (hval 0 27 v0 rfl rfl) h0
  obtain ⟨_, _, rfl, ⟨c0_0, rfl, k0_0⟩, hk0_1⟩ := okL_cons hk0_0
  obtain ⟨_, _, rfl, ⟨c0_1, rfl, k0_1⟩, hk0_2⟩ := okL_cons hk0_1
  obtain ⟨_, _, rfl, ⟨c0_2, rfl, k0_2⟩, hk0_3⟩ := okL_cons hk0_2
  obtain ⟨_, _, rfl, ⟨c0_3, rfl, k0_3⟩, hk0_4⟩ := okL_cons hk0_3
  obtain ⟨_, _, rfl, ⟨c0_4, rfl, k0_4⟩, hk0_5⟩ := okL_cons hk0_4
  obtain ⟨_, _, rfl, ⟨c0_5, rfl⟩, hk0_6⟩ := okL_cons hk0_5
  obtain ⟨_, _, rfl, ⟨c0_6, rfl⟩, hk0_7⟩ := okL_cons hk0_6
  obtain ⟨_, _, rfl, ⟨c0_7, rfl⟩, hk0_8⟩ := okL_cons hk0_7
  obtain ⟨_, _, rfl, ⟨c0_8, rfl, k0_8⟩, hk0_9⟩ := okL_cons hk0_8
  obtain ⟨_, _, rfl, ⟨c0_9, rfl, k0_9⟩, hk0_10⟩ := okL_cons hk0_9
  obtain ⟨_, _, rfl, ⟨c0_10, rfl, k0_10⟩, hk0_11⟩ := okL_cons hk0_10
  obtain ⟨_, _, rfl, ⟨c0_11, rfl, k0_11⟩, hk0_12⟩ := okL_cons hk0_11
  obtain ⟨_, _, rfl, ⟨c0_12, rfl, k0_12⟩, hk0_13⟩ := okL_cons hk0_12
  obtain ⟨_, _, rfl, ⟨c0_13, rfl, k0_13⟩, hk0_14⟩ := okL_cons hk0_13
  obtain ⟨_, _, rfl, ⟨c0_14, rfl, k0_14⟩, hk0_15⟩ := okL_cons hk0_14
  obtain ⟨_, _, rfl, ⟨c0_15, rfl, k0_15⟩, hk0_16⟩ := okL_cons hk0_15
  obtain rfl := okL_nil hk0_16
  obtain ⟨cs1, rfl, hk1_0⟩ := open_struct tok (t := 29) (ks := [.int .i64, .int .i64, .int .i64, .str]) rfl rfl (hval 1 29 v1 rfl rfl) h1
  obtain ⟨_, _, rfl, ⟨c1_0, rfl, k1_0⟩, hk1_1⟩ := okL_cons hk1_0
  obtain ⟨_, _, rfl, ⟨c1_1, rfl, k1_1⟩, hk1_2⟩ := okL_cons hk1_1
  obtain ⟨_, _, rfl, ⟨c1_2, rfl, k1_2⟩, hk1_3⟩ := okL_cons hk1_2
  obtain ⟨_, _, rfl, ⟨c1_3, rfl, k1_3⟩, hk1_4⟩ := okL_cons hk1_3
  obtain rfl := okL_nil hk1_4
  clear hA0 hval0
  refine (recvs_law c0_0 c0_1 c0_2 c0_3 c0_4 c0_5 c0_6 c0_7 c0_8 c0_9 c0_10 c0_11 c0_12 c0_13 c0_14 c0_15 c1_0 c1_1 c1_2 c1_3 W (mlen_of hSh)).mono fun e W' ⟨he, hb⟩ => ?_
  subst he
  exact ⟨_, rfl, law_post laid hW' hb (by kernel_rfl) (by kernel_rfl) rfl Tryz.underlying4 rfl rfl rfl⟩

theorem row_holds : Rows.StreamReceivesSaid :=
  OpenClaim.holds_of_wide 4 Tryz.f4 rfl rfl rfl rfl rfl rfl rfl ⟨rfl, rfl, rfl, rfl, rfl⟩ rfl rfl rfl rfl rfl (by kernel_rfl) Tryz.func4 (by kernel_rfl)
    (of_decide_eq_true (by kernel_rfl)) (by unfold Func.isWrapper; first | (rw [if_pos (by decide +kernel)]; kernel_rfl) | (rw [if_neg (by decide +kernel)]; exact ⟨rfl, rfl⟩))
    (fun os started H enc _ => lifted os started H enc)
/-- THE STATEMENT: the tied card. -/
theorem proved : Rows.StreamReceivesCardSaid :=
  Claim7.holds_tied_plain_at .later [] [.data, .pinned] true (true, "54fbda044b62d1d499311ddcd0682b7891662c8b7dd93c75851befcfe809e670") false
    row_holds (fun _ h => by cases h) (by kernel_rfl) (fun _ h => by cases h) streamReceives_row_tie rfl ⟨rfl, rfl⟩ (by kernel_rfl) rfl
    (fun f fn hf hfn => by
      obtain rfl : f = 4 := Option.some.inj ((show Tryz.prog.funcNamed "wireschema/wireschemalaw46.StreamReceives" = some 4 by kernel_rfl).symm.trans hf) |>.symm
      obtain rfl : fn = Tryz.f4 := (Option.some.inj (Tryz.func4.symm.trans hfn)).symm
      exact ⟨by kernel_rfl, fun j t ht => by
        rw [Tryz.params4] at ht
        have hm := Array.mem_of_getElem? ht
        have hall : (Tryz.f4.params.toList.all fun u => !Tryz.prog.wantsStandIn u) = true := by kernel_rfl
        rw [Tryz.params4] at hall
        exact (show Tryz.prog.wantsStandIn t = false by simpa using List.all_eq_true.1 hall t (by simpa using hm))⟩)
    (by kernel_rfl)
end Go.Proofs.YtcedpdofjbaciaaGreatDoor.streamReceives
