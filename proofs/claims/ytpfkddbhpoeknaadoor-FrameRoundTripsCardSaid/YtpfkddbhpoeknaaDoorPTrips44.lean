/- FrameRoundTrips: a frame that can be written is read again from its bytes, whatever follows (the law itself asks nothing beyond 20000 bytes of data and 3000 bytes after them); the card ties the listed package-level variables to the program text. -/
import Derived.Test.YtpfkddbhpoeknaaDoorRows
import Derived.Test.YtpfkddbhpoeknaaDoorCards
import Derived.Test.YtpfkddbhpoeknaaDoorTie
import Derived.SevenTiedAt
import Derived.Test.YtpfkddbhpoeknaaDoorLaid
import Derived.Lay
import Derived.Test.YtpfkddbhpoeknaaDoorLawTrips
import Derived.Test.YtpfkddbhpoeknaaDoorShaped
import Derived.Lib.SmallJoins
import Derived.Test.YtpfkddbhpoeknaaDoorLawPost
import Derived.OpenShut
import Derived.ShutString
import Derived.SizedLaws
import Derived.ProofKit
import Derived.Stop.Joined
namespace Go.Proofs.YtpfkddbhpoeknaaDoor.frameRoundTrips
open Go.ChangeShapes Go.WideShapes Go.ChangeAt Go.RowKit
open Go.ChangeMaps (open_string shut_string)

theorem own : ownKnob Tryd.prog.godebug = none := by kernel_rfl
theorem laid : laidOutB Tryd.prog = true := by kernel_rfl
set_option maxRecDepth 100000 in
theorem lifted (os : Os) (started : os.Started) (H : Type) (enc : TypeId × Value → H) :
    ReturnsInHanded {} Tryd.checked os 7 .any (fun w args => (Rows.frameRoundTripsSpec.pre enc Tryd.prog Tryd.f7 Rows.frameRoundTripsRow.domain false w args ∧ laidMetH Tryd.prog Rows.frameRoundTripsRow.laid w) ∧ sizedMet enc Tryd.prog Tryd.f7 (OpenSpec.ofChange Rows.frameRoundTripsSpec) false w args)
      (Rows.frameRoundTripsSpec.post enc Tryd.prog Tryd.f7 false true false false) := by
  refine handed_and_shape (C := Tryd.checked) (X := fun w _ => laidMetH Tryd.prog Rows.frameRoundTripsRow.laid w) (fun _ _ _ hh h => h.of_heap hh) own started (by kernel_rfl) Tryd.func7
    (ChangeSpec.witness_shaped (enc := enc) (C := Tryd.checked) (os := os) (X := fun w _ => laidMetH Tryd.prog Rows.frameRoundTripsRow.laid w) false (World.laidAll Tryd.prog os Rows.frameRoundTripsRow.laid) #[.agg #[.int .i64 0, .int .i64 0, .int .i64 0, .string ByteArray.empty], .string ByteArray.empty] 8 (World.laidAll_os _ _ _) (World.shaped_of_ZipB (by kernel_rfl) (by kernel_rfl)) (by kernel_rfl) (by kernel_rfl) (by kernel_rfl) (by rw [MakeChecks.laidMetH_plain _ _ _ (by kernel_rfl)]; exact laidMet_laidAll _ (by kernel_rfl) (by kernel_rfl))) ?_
  intro W base args ds gs before hval0 hW hsz hLL hSh
  have _hL : laidMet Tryd.prog Rows.frameRoundTripsRow.laid W := by rw [MakeChecks.laidMetH_plain _ _ _ (by kernel_rfl)] at hLL; exact hLL
  have hval : ∀ (j : Nat) t v, Tryd.f7.params[j]? = some t → args[j]? = some v → Value.okWide Tryd.prog W .any base t v := hval0
  have hW' := hW
  obtain ⟨p, q, hA0, hV, rfl, hfz, hnd⟩ := hW
  have hA : DataW.TrodAll enc Tryd.prog W 0 (fun _ => true) true Tryd.f7.params.toList args.toList ds p := hA0
  rw [Tryd.params7] at hA hval
  obtain ⟨v0, vs0, d0, ds0, p0, q0, hargs, rfl, rfl, h0, r0⟩ := trodAll_cons hA
  obtain ⟨v1, vs1, d1, ds1, p1, q1, rfl, rfl, rfl, h1, r1⟩ := trodAll_cons r0
  obtain ⟨rfl, rfl, rfl⟩ := trodAll_nil r1
  obtain rfl : args = #[v0, v1] := by cases args; simp_all
  obtain ⟨rfl, rfl⟩ := trodVars_none hV
  obtain ⟨b00, b01, b02, b03, y00, y01, y02, y03, m0, rfl, rfl, rfl, t00, t01, t02, t03⟩ := Joins.open_agg4 Tryd.underlying24 (by kernel_rfl) (by kernel_rfl) (hval 0 24 v0 rfl rfl) h0
  obtain ⟨c00, e00, _, k00⟩ := DataW.trod_int Tryd.underlying3 t00
  obtain ⟨c01, e01, _, k01⟩ := DataW.trod_int Tryd.underlying3 t01
  obtain ⟨c02, e02, _, k02⟩ := DataW.trod_int Tryd.underlying3 t02
  obtain ⟨s0, e03, x03, k03⟩ := DataW.trod_string Tryd.underlying9 t03
  obtain rfl : b00 = .int .i64 c00 := by simpa using e00
  obtain rfl : b01 = .int .i64 c01 := by simpa using e01
  obtain rfl : b02 = .int .i64 c02 := by simpa using e02
  obtain rfl : b03 = .string s0 := by simpa using e03
  obtain ⟨a1, rfl, rfl, rfl, w1⟩ := open_string Tryd.underlying9 (hval 1 9 v1 rfl rfl) h1
  have z1 : a1.size ≤ 140737488351232 := by
    have hz := sized_string hsz (j := 1) (t := 9) (bytes := a1.data.toList) (by rw [Tryd.params7]; rfl) rfl
    simpa [reachBytes] using hz
  clear hA0 hval0
  refine (trips_law ⟨c00, c01, c02, s0⟩ a1 W (mlen_of hSh)).mono fun e W' ⟨he, hb⟩ => ?_
  subst he
  exact ⟨_, rfl, law_post laid hW' hb (by kernel_rfl) (by kernel_rfl) rfl Tryd.underlying4 rfl rfl rfl⟩

theorem row_holds : Rows.FrameRoundTripsSaid :=
  OpenClaim.holds_of_wide 7 Tryd.f7 rfl rfl rfl rfl rfl rfl rfl ⟨rfl, rfl, rfl, rfl, rfl⟩ rfl rfl rfl rfl rfl (by kernel_rfl) Tryd.func7 (by kernel_rfl)
    (of_decide_eq_true (by kernel_rfl)) (by unfold Func.isWrapper; first | (rw [if_pos (by decide +kernel)]; kernel_rfl) | (rw [if_neg (by decide +kernel)]; exact ⟨rfl, rfl⟩))
    (fun os started H enc _ => lifted os started H enc)
/-- THE STATEMENT: the tied card. -/
theorem proved : Rows.FrameRoundTripsCardSaid :=
  Claim7.holds_tied_plain_at .later [] [.data, .pinned] true (true, "56eaf4a58972bbfe2746a04a5f8490ca2798f890f0ae515126b1a9d72b72d0db") false
    row_holds (fun _ h => by cases h) (by kernel_rfl) (fun _ h => by cases h) frameRoundTrips_row_tie rfl ⟨rfl, rfl⟩ (by kernel_rfl) rfl
    (fun f fn hf hfn => by
      obtain rfl : f = 7 := Option.some.inj ((show Tryd.prog.funcNamed "wireschema/wireschemalaw44.FrameRoundTrips" = some 7 by kernel_rfl).symm.trans hf) |>.symm
      obtain rfl : fn = Tryd.f7 := (Option.some.inj (Tryd.func7.symm.trans hfn)).symm
      exact ⟨by kernel_rfl, fun j t ht => by
        rw [Tryd.params7] at ht
        have hm := Array.mem_of_getElem? ht
        have hall : (Tryd.f7.params.toList.all fun u => !Tryd.prog.wantsStandIn u) = true := by kernel_rfl
        rw [Tryd.params7] at hall
        exact (show Tryd.prog.wantsStandIn t = false by simpa using List.all_eq_true.1 hall t (by simpa using hm))⟩)
    (by kernel_rfl)
end Go.Proofs.YtpfkddbhpoeknaaDoor.frameRoundTrips
