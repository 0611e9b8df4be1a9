/- frame.bytes and its reference: the text of a frame, sealed. -/
import Derived.Test.YtpfkddbhpoeknaaGreatDoorChk
import Derived.Test.YtpfkddbhpoeknaaGreatDoorByte
import Derived.Test.YtpfkddbhpoeknaaGreatDoorRegionR
import Derived.Test.YtpfkddbhpoeknaaGreatDoorFmLaw
namespace Go.Proofs.YtpfkddbhpoeknaaGreatDoor
open Go.RowKit
theorem bk_byte {W : World} {g : Nat} {x : Int} (c : UInt8) (hx : x = (c.toNat : Int)) (h : Bk W g 5 #[.int .u8 x]) :
    (convert 49 9 (.slice (some ⟨g, 0, none⟩) 1 1)).run Tryz.prog W = .ok (.string ⟨#[c]⟩) W := by
  subst hx
  refine run_convert_bytes_back _ _ _ _ _ _ [c] Tryz.underlying49 Tryz.underlying5 Tryz.underlying9 fun j hj => ?_
  obtain rfl : j = 0 := (by simpa using hj)
  have : (⟨g, 0, none⟩ : Addr).add 0 = ⟨g, 0, none⟩ := by unfold Addr.add; simp
  rw [this]
  exact h.at_ 0 rfl
theorem box_below (w : World) (o : Obj) : Below w.heap.size w (w.alloc o) := (Below.refl _ _).alloc (Nat.le_refl _) _
/-- a slice of one byte, made in the region. -/
def OneB (x : Int) (v : Value) (w : World) : Prop := ∃ g, v = .slice (some ⟨g, 0, none⟩) 1 1 ∧ Bk w g 5 #[.int .u8 x]
theorem OneB.kept (x : Int) : ∀ v w w', Below w.heap.size w w' → OneB x v w → OneB x v w' := fun _ _ _ hb ⟨g, h1, h2⟩ => ⟨g, h1, h2.keep hb⟩
theorem full_cat (a b : ByteArray) : (a ++ b).size = a.size + b.size := ByteArray.size_append
set_option maxHeartbeats 4000000 in
set_option maxRecDepth 100000 in
theorem bytes_any (k s n : Nat) (d : ByteArray) (w : World) (hk : k < 256) (hs : s < 9223372036854775808) (hn : n < 9223372036854775808) (hd : d.size < 4294967281) :
    Calls Tryz.prog 14 #[.agg (fcells ⟨k, s, n, d⟩)] w fun e w' => e = .returned (.string (frB ⟨k, s, n, d⟩)) ∧ Below w.heap.size w w' := by
  have hA0 := putL_len s; have hB0 := putL_len n; have hD0 := putL_len d.size
  have HPS := Lib.hid (fun w => put_any s w (by omega))
  have HPN := Lib.hid (fun w => put_any n w (by omega))
  have HPD := Lib.hid (fun w => put_any d.size w (by omega))
  have HC := Lib.hid (show ((k : Int)) = (((UInt8.ofNat k)).toNat : Int) by rw [UInt8.toNat_ofNat']; omega)
  have HR := Lib.hid (show sealB (⟨#[UInt8.ofNat k]⟩ ++ ⟨(putL s).toArray⟩ ++ ⟨(putL n).toArray⟩ ++ ⟨(putL d.size).toArray⟩ ++ d) = frB ⟨k, s, n, d⟩ by
    unfold frB; congr 1; refine ByteArray.ext (Array.ext' ?_); simp [ByteArray.data_append, frL])
  have hA : (⟨(putL s).toArray⟩ : ByteArray).size ≤ 10 := by show (putL s).toArray.size ≤ 10; simp; omega
  have hB : (⟨(putL n).toArray⟩ : ByteArray).size ≤ 10 := by show (putL n).toArray.size ≤ 10; simp; omega
  have hD : (⟨(putL d.size).toArray⟩ : ByteArray).size ≤ 10 := by show (putL d.size).toArray.size ≤ 10; simp; omega
  clear hA0 hB0 hD0
  have hcs : (⟨#[UInt8.ofNat k]⟩ : ByteArray).size = 1 := rfl
  have HKV := Lib.hid (fun W g h => bk_byte (W := W) (g := g) (UInt8.ofNat k) HC.out h)
  generalize hCe : (⟨#[UInt8.ofNat k]⟩ : ByteArray) = C at *
  generalize (⟨(putL s).toArray⟩ : ByteArray) = A at *
  generalize (⟨(putL n).toArray⟩ : ByteArray) = B at *
  generalize (⟨(putL d.size).toArray⟩ : ByteArray) = D at *
  have hw0 : IntKind.u8.wrap (k : Int) = k := by rw [IntKind.wrap_u8]; omega
  have hw1 : IntKind.u64.wrap (s : Int) = s := by rw [IntKind.wrap_u64]; omega
  have hw2 : IntKind.u64.wrap (n : Int) = n := by rw [IntKind.wrap_u64]; omega
  have hw3 : IntKind.u64.wrap (d.size : Int) = d.size := by rw [IntKind.wrap_u64]; omega
  have hx1 : ¬ 9223372036854775807 < C.size + A.size := by omega
  have hx2 : ¬ 9223372036854775807 < C.size + A.size + B.size := by omega
  have hx3 : ¬ 9223372036854775807 < C.size + A.size + B.size + D.size := by omega
  have hx4 : ¬ 9223372036854775807 < C.size + A.size + B.size + D.size + d.size := by omega
  have HSZ := Lib.hid (show (C ++ A ++ B ++ D ++ d).size ≤ 281474976710656 by rw [full_cat, full_cat, full_cat, full_cat]; omega)
  have HSE := Lib.hid (fun w => seal_any (C ++ A ++ B ++ D ++ d) w HSZ.out)
  clear hk hs hn hd hA hB hD hcs
  have HKB := Lib.hid (Bk.new w FT (fcells ⟨k, s, n, d⟩))
  have HB0 := Lib.hid (box_below w (.cells (fcells ⟨k, s, n, d⟩) FT))
  go_enter Tryz.func14, Tryz.ntmps14
  go_wp2_with fail
  refine wp_region_R (RsOf [.one (.pointer (some ⟨w.heap.size, 0, none⟩)), .one (.int .i64 k), .one (.int .u8 k), .any (OneB k) (OneB.kept k), .one (.string C), .one (.pointer (some ⟨w.heap.size, 1, none⟩)), .one (.int .i64 s), .one (.int .u64 s), .one (.string A), .one (.string (C ++ A)), .one (.pointer (some ⟨w.heap.size, 2, none⟩)), .one (.int .i64 n), .one (.int .u64 n), .one (.string B), .one (.string (C ++ A ++ B)), .one (.pointer (some ⟨w.heap.size, 3, none⟩)), .one (.string d), .one (.int .i64 d.size), .one (.int .u64 d.size), .one (.string D), .one (.string (C ++ A ++ B ++ D)), .one (.pointer (some ⟨w.heap.size, 3, none⟩)), .one (.string d), .one (.string (C ++ A ++ B ++ D ++ d)), .one (.string (sealB (C ++ A ++ B ++ D ++ d))), .one (.string (sealB (C ++ A ++ B ++ D ++ d)))]) (by kernel_rfl) (by kernel_rfl) (RsOf_kept _) (fun vs => ?_)
  -- 0
  refine obls_cons (oblR_const (.pointer (some ⟨w.heap.size, 0, none⟩)) rfl (fun w1 hb hF => ?_) (fun _ => rfl)) (fun K hK => ?_)
  · go_simp
    all_goals (first | rfl | omega)
  try go_simp
  refine hK _ ?_; clear hK K
  -- 1
  refine obls_cons (oblR_const (.int .i64 k) rfl (fun w1 hb hF => ?_) (fun _ => rfl)) (fun K hK => ?_)
  · have e0 : vs 0 = .pointer (some ⟨w.heap.size, 0, none⟩) := hF 0 (by decide) (by kernel_rfl); have k0 := (HKB.out.keep ((Below.refl _ _).drew.trans hb)).at_ 0 rfl; go_simp
    all_goals (first | rfl | omega)
  try go_simp
  refine hK _ ?_; clear hK K
  -- 2
  refine obls_cons (oblR_const (.int .u8 k) rfl (fun w1 hb hF => ?_) (fun _ => rfl)) (fun K hK => ?_)
  · have e1 : vs 1 = .int .i64 k := hF 1 (by decide) (by kernel_rfl); go_simp
    all_goals (first | rfl | omega)
  try go_simp
  refine hK _ ?_; clear hK K
  -- 3
  refine obls_cons (oblR_val rfl (fun w1 hb hF => ?_)) (fun K hK => ?_)
  · have e2 : vs 2 = .int .u8 k := hF 2 (by decide) (by kernel_rfl); refine ⟨.slice (some ⟨w1.heap.size, 0, none⟩) 1 1, w1.alloc (.cells #[.int .u8 k] 5), ?_, box_below _ _, ⟨_, rfl, Bk.new _ _ _⟩⟩; go_simp
    all_goals (first | rfl | omega)
  try go_simp
  refine hK _ ?_; clear hK K
  -- 4
  refine obls_cons (oblR_const (.string C) rfl (fun w1 hb hF => ?_) (fun _ => rfl)) (fun K hK => ?_)
  · obtain ⟨g, e3, hg⟩ : OneB k (vs 3) w1 := hF 3 (by decide) (by kernel_rfl)
    have hcv := HKV.out _ _ hg
    go_simp
    all_goals (first | rfl | omega)
  try go_simp
  refine hK _ ?_; clear hK K
  -- 5
  refine obls_cons (oblR_const (.pointer (some ⟨w.heap.size, 1, none⟩)) rfl (fun w1 hb hF => ?_) (fun _ => rfl)) (fun K hK => ?_)
  · go_simp
    all_goals (first | rfl | omega)
  try go_simp
  refine hK _ ?_; clear hK K
  -- 6
  refine obls_cons (oblR_const (.int .i64 s) rfl (fun w1 hb hF => ?_) (fun _ => rfl)) (fun K hK => ?_)
  · have e5 : vs 5 = .pointer (some ⟨w.heap.size, 1, none⟩) := hF 5 (by decide) (by kernel_rfl); have k1 := (HKB.out.keep ((Below.refl _ _).drew.trans hb)).at_ 1 rfl; go_simp
    all_goals (first | rfl | omega)
  try go_simp
  refine hK _ ?_; clear hK K
  -- 7
  refine obls_cons (oblR_const (.int .u64 s) rfl (fun w1 hb hF => ?_) (fun _ => rfl)) (fun K hK => ?_)
  · have e6 : vs 6 = .int .i64 s := hF 6 (by decide) (by kernel_rfl); go_simp
    all_goals (first | rfl | omega)
  try go_simp
  refine hK _ ?_; clear hK K
  -- 8
  refine obls_cons (oblR_call 33 #[.int .u64 s] rfl (fun w1 hb hF => ?_) (fun w1 hb => call_const (HPS.out w1) (fun _ => rfl))) (fun K hK => ?_)
  · have e7 : vs 7 = .int .u64 s := hF 7 (by decide) (by kernel_rfl); go_simp
    all_goals (first | rfl | omega)
  try go_simp
  refine hK _ ?_; clear hK K
  -- 9
  refine obls_cons (oblR_const (.string (C ++ A)) rfl (fun w1 hb hF => ?_) (fun _ => rfl)) (fun K hK => ?_)
  · have e4 : vs 4 = .string C := hF 4 (by decide) (by kernel_rfl); have e8 : vs 8 = .string A := hF 8 (by decide) (by kernel_rfl); go_simp
    all_goals (first | rfl | omega)
  try go_simp
  refine hK _ ?_; clear hK K
  -- 10
  refine obls_cons (oblR_const (.pointer (some ⟨w.heap.size, 2, none⟩)) rfl (fun w1 hb hF => ?_) (fun _ => rfl)) (fun K hK => ?_)
  · go_simp
    all_goals (first | rfl | omega)
  try go_simp
  refine hK _ ?_; clear hK K
  -- 11
  refine obls_cons (oblR_const (.int .i64 n) rfl (fun w1 hb hF => ?_) (fun _ => rfl)) (fun K hK => ?_)
  · have e10 : vs 10 = .pointer (some ⟨w.heap.size, 2, none⟩) := hF 10 (by decide) (by kernel_rfl); have k2 := (HKB.out.keep ((Below.refl _ _).drew.trans hb)).at_ 2 rfl; go_simp
    all_goals (first | rfl | omega)
  try go_simp
  refine hK _ ?_; clear hK K
  -- 12
  refine obls_cons (oblR_const (.int .u64 n) rfl (fun w1 hb hF => ?_) (fun _ => rfl)) (fun K hK => ?_)
  · have e11 : vs 11 = .int .i64 n := hF 11 (by decide) (by kernel_rfl); go_simp
    all_goals (first | rfl | omega)
  try go_simp
  refine hK _ ?_; clear hK K
  -- 13
  refine obls_cons (oblR_call 33 #[.int .u64 n] rfl (fun w1 hb hF => ?_) (fun w1 hb => call_const (HPN.out w1) (fun _ => rfl))) (fun K hK => ?_)
  · have e12 : vs 12 = .int .u64 n := hF 12 (by decide) (by kernel_rfl); go_simp
    all_goals (first | rfl | omega)
  try go_simp
  refine hK _ ?_; clear hK K
  -- 14
  refine obls_cons (oblR_const (.string (C ++ A ++ B)) rfl (fun w1 hb hF => ?_) (fun _ => rfl)) (fun K hK => ?_)
  · have e9 : vs 9 = .string (C ++ A) := hF 9 (by decide) (by kernel_rfl); have e13 : vs 13 = .string B := hF 13 (by decide) (by kernel_rfl); go_simp
    all_goals (first | rfl | omega)
  try go_simp
  refine hK _ ?_; clear hK K
  -- 15
  refine obls_cons (oblR_const (.pointer (some ⟨w.heap.size, 3, none⟩)) rfl (fun w1 hb hF => ?_) (fun _ => rfl)) (fun K hK => ?_)
  · go_simp
    all_goals (first | rfl | omega)
  try go_simp
  refine hK _ ?_; clear hK K
  -- 16
  refine obls_cons (oblR_const (.string d) rfl (fun w1 hb hF => ?_) (fun _ => rfl)) (fun K hK => ?_)
  · have e15 : vs 15 = .pointer (some ⟨w.heap.size, 3, none⟩) := hF 15 (by decide) (by kernel_rfl); have k3 := (HKB.out.keep ((Below.refl _ _).drew.trans hb)).at_ 3 rfl; go_simp
    all_goals (first | rfl | omega)
  try go_simp
  refine hK _ ?_; clear hK K
  -- 17
  refine obls_cons (oblR_const (.int .i64 d.size) rfl (fun w1 hb hF => ?_) (fun _ => rfl)) (fun K hK => ?_)
  · have e16 : vs 16 = .string d := hF 16 (by decide) (by kernel_rfl); go_simp
    all_goals (first | rfl | omega)
  try go_simp
  refine hK _ ?_; clear hK K
  -- 18
  refine obls_cons (oblR_const (.int .u64 d.size) rfl (fun w1 hb hF => ?_) (fun _ => rfl)) (fun K hK => ?_)
  · have e17 : vs 17 = .int .i64 d.size := hF 17 (by decide) (by kernel_rfl); go_simp
    all_goals (first | rfl | omega)
  try go_simp
  refine hK _ ?_; clear hK K
  -- 19
  refine obls_cons (oblR_call 33 #[.int .u64 d.size] rfl (fun w1 hb hF => ?_) (fun w1 hb => call_const (HPD.out w1) (fun _ => rfl))) (fun K hK => ?_)
  · have e18 : vs 18 = .int .u64 d.size := hF 18 (by decide) (by kernel_rfl); go_simp
    all_goals (first | rfl | omega)
  try go_simp
  refine hK _ ?_; clear hK K
  -- 20
  refine obls_cons (oblR_const (.string (C ++ A ++ B ++ D)) rfl (fun w1 hb hF => ?_) (fun _ => rfl)) (fun K hK => ?_)
  · have e14 : vs 14 = .string (C ++ A ++ B) := hF 14 (by decide) (by kernel_rfl); have e19 : vs 19 = .string D := hF 19 (by decide) (by kernel_rfl); go_simp
    all_goals (first | rfl | omega)
  try go_simp
  refine hK _ ?_; clear hK K
  -- 21
  refine obls_cons (oblR_const (.pointer (some ⟨w.heap.size, 3, none⟩)) rfl (fun w1 hb hF => ?_) (fun _ => rfl)) (fun K hK => ?_)
  · go_simp
    all_goals (first | rfl | omega)
  try go_simp
  refine hK _ ?_; clear hK K
  -- 22
  refine obls_cons (oblR_const (.string d) rfl (fun w1 hb hF => ?_) (fun _ => rfl)) (fun K hK => ?_)
  · have e21 : vs 21 = .pointer (some ⟨w.heap.size, 3, none⟩) := hF 21 (by decide) (by kernel_rfl); have k3 := (HKB.out.keep ((Below.refl _ _).drew.trans hb)).at_ 3 rfl; go_simp
    all_goals (first | rfl | omega)
  try go_simp
  refine hK _ ?_; clear hK K
  -- 23
  refine obls_cons (oblR_const (.string (C ++ A ++ B ++ D ++ d)) rfl (fun w1 hb hF => ?_) (fun _ => rfl)) (fun K hK => ?_)
  · have e20 : vs 20 = .string (C ++ A ++ B ++ D) := hF 20 (by decide) (by kernel_rfl); have e22 : vs 22 = .string d := hF 22 (by decide) (by kernel_rfl); go_simp
    all_goals (first | rfl | omega)
  try go_simp
  refine hK _ ?_; clear hK K
  -- 24
  refine obls_cons (oblR_call 39 #[.string (C ++ A ++ B ++ D ++ d)] rfl (fun w1 hb hF => ?_) (fun w1 hb => call_const (HSE.out w1) (fun _ => rfl))) (fun K hK => ?_)
  · have e23 : vs 23 = .string (C ++ A ++ B ++ D ++ d) := hF 23 (by decide) (by kernel_rfl); go_simp
    all_goals (first | rfl | omega)
  try go_simp
  refine hK _ ?_; clear hK K
  -- 25
  refine obls_cons (oblR_const (.string (sealB (C ++ A ++ B ++ D ++ d))) rfl (fun w1 hb hF => ?_) (fun _ => rfl)) (fun K hK => ?_)
  · have e24 : vs 24 = .string (sealB (C ++ A ++ B ++ D ++ d)) := hF 24 (by decide) (by kernel_rfl); go_simp
    all_goals (first | rfl | omega)
  try go_simp
  refine hK _ ?_; clear hK K
  refine obls_nil ?_
  intro w1 hb hF
  have e25 : vs 25 = .string (sealB (C ++ A ++ B ++ D ++ d)) := hF 25 (by simp) 
  try simp only [e25]
  go_wp2_with fail
  go_ret
  exact ⟨by rw [HR.out]; rfl, HB0.out.trans (hb.mono HB0.out.size)⟩
set_option maxHeartbeats 1000000 in
set_option maxRecDepth 100000 in
theorem four_any (s : ByteArray) (w : World) (hs : s.size ≤ 281474976710656) :
    Calls Tryz.prog 41 #[.string s] w fun e w' => e = .returned (.string ⟨(le4 (crcV s.data.toList)).toArray⟩) ∧ Below w.heap.size w w' := by
  have hs2 : s.size ≤ 9223372036854775806 := by omega
  have HC := Lib.hid (fun w => refCrc_any s w hs2)
  have hl := crcV_lt s.data.toList
  clear hs hs2
  generalize hU : crcV s.data.toList = U at *
  have hcv := fun w => conv_new w #[.int .u8 ((U : Int) % 256), .int .u8 ((U : Int) / 256 % 256), .int .u8 ((U : Int) / 65536 % 256), .int .u8 ((U : Int) / 16777216)] (le4 U) 4 4 rfl (by
    intro j hj
    have hj4 : j < 4 := hj
    have hc : j = 0 ∨ j = 1 ∨ j = 2 ∨ j = 3 := by omega
    rcases hc with rfl | rfl | rfl | rfl <;> simp [le4] <;> omega)
  go_enter Tryz.func41, Tryz.ntmps41
  go_wp2_with fail
  refine (HC.out _).mono ?_; rintro e w1 ⟨rfl, rfl⟩
  try rw [show (((4294967295 - crcR s.data.toList : Nat)) : Int) = (U : Int) from by rw [← hU]; rfl]
  go_wp2_with fail
  go_ret
  exact ⟨rfl, (Below.refl _ _).alloc (Nat.le_refl _) _⟩
set_option maxHeartbeats 4000000 in
set_option maxRecDepth 100000 in
theorem rbytes_any (k s n : Nat) (d : ByteArray) (w : World) (hk : k < 256) (hs : s < 9223372036854775808) (hn : n < 9223372036854775808) (hd : d.size < 4294967281) :
    Calls Tryz.prog 15 #[.agg (fcells ⟨k, s, n, d⟩)] w fun e w' => e = .returned (.string (frB ⟨k, s, n, d⟩)) ∧ Below w.heap.size w w' := by
  have hA0 := putL_len s; have hB0 := putL_len n; have hD0 := putL_len d.size
  have HPS := Lib.hid (fun w => refPut_any s w (by omega))
  have HPN := Lib.hid (fun w => refPut_any n w (by omega))
  have HPD := Lib.hid (fun w => refPut_any d.size w (by omega))
  have HC := Lib.hid (show ((k : Int)) = (((UInt8.ofNat k)).toNat : Int) by rw [UInt8.toNat_ofNat']; omega)
  have HR := Lib.hid (show sealB (⟨#[UInt8.ofNat k]⟩ ++ ⟨(putL s).toArray⟩ ++ ⟨(putL n).toArray⟩ ++ ⟨(putL d.size).toArray⟩ ++ d) = frB ⟨k, s, n, d⟩ by
    unfold frB; congr 1; refine ByteArray.ext (Array.ext' ?_); simp [ByteArray.data_append, frL])
  have hA : (⟨(putL s).toArray⟩ : ByteArray).size ≤ 10 := by show (putL s).toArray.size ≤ 10; simp; omega
  have hB : (⟨(putL n).toArray⟩ : ByteArray).size ≤ 10 := by show (putL n).toArray.size ≤ 10; simp; omega
  have hD : (⟨(putL d.size).toArray⟩ : ByteArray).size ≤ 10 := by show (putL d.size).toArray.size ≤ 10; simp; omega
  clear hA0 hB0 hD0
  have hcs : (⟨#[UInt8.ofNat k]⟩ : ByteArray).size = 1 := rfl
  have HKV := Lib.hid (fun W g h => bk_byte (W := W) (g := g) (UInt8.ofNat k) HC.out h)
  generalize hCe : (⟨#[UInt8.ofNat k]⟩ : ByteArray) = C at *
  generalize (⟨(putL s).toArray⟩ : ByteArray) = A at *
  generalize (⟨(putL n).toArray⟩ : ByteArray) = B at *
  generalize (⟨(putL d.size).toArray⟩ : ByteArray) = D at *
  have hw0 : IntKind.u8.wrap (k : Int) = k := by rw [IntKind.wrap_u8]; omega
  have hw1 : IntKind.u64.wrap (s : Int) = s := by rw [IntKind.wrap_u64]; omega
  have hw2 : IntKind.u64.wrap (n : Int) = n := by rw [IntKind.wrap_u64]; omega
  have hw3 : IntKind.u64.wrap (d.size : Int) = d.size := by rw [IntKind.wrap_u64]; omega
  have hx1 : ¬ 9223372036854775807 < C.size + A.size := by omega
  have hx2 : ¬ 9223372036854775807 < C.size + A.size + B.size := by omega
  have hx3 : ¬ 9223372036854775807 < C.size + A.size + B.size + D.size := by omega
  have hx4 : ¬ 9223372036854775807 < C.size + A.size + B.size + D.size + d.size := by omega
  have HSZ := Lib.hid (show (C ++ A ++ B ++ D ++ d).size ≤ 281474976710656 by rw [full_cat, full_cat, full_cat, full_cat]; omega)
  have HSE := Lib.hid (fun w => four_any (C ++ A ++ B ++ D ++ d) w HSZ.out)
  clear hk hs hn hd hA hB hD hcs
  have HKB := Lib.hid (Bk.new w FT (fcells ⟨k, s, n, d⟩))
  have HB0 := Lib.hid (box_below w (.cells (fcells ⟨k, s, n, d⟩) FT))
  go_enter Tryz.func15, Tryz.ntmps15
  go_wp2_with fail
  refine wp_region_R (RsOf [.one (.pointer (some ⟨w.heap.size, 0, none⟩)), .one (.int .i64 k), .one (.int .u8 k), .any (OneB k) (OneB.kept k), .one (.string C), .one (.pointer (some ⟨w.heap.size, 1, none⟩)), .one (.int .i64 s), .one (.int .u64 s), .one (.string A), .one (.string (C ++ A)), .one (.pointer (some ⟨w.heap.size, 2, none⟩)), .one (.int .i64 n), .one (.int .u64 n), .one (.string B), .one (.string (C ++ A ++ B)), .one (.pointer (some ⟨w.heap.size, 3, none⟩)), .one (.string d), .one (.int .i64 d.size), .one (.int .u64 d.size), .one (.string D), .one (.string (C ++ A ++ B ++ D)), .one (.pointer (some ⟨w.heap.size, 3, none⟩)), .one (.string d), .one (.string (C ++ A ++ B ++ D ++ d)), .one (.string (C ++ A ++ B ++ D ++ d))]) (by kernel_rfl) (by kernel_rfl) (RsOf_kept _) (fun vs => ?_)
  -- 0
  refine obls_cons (oblR_const (.pointer (some ⟨w.heap.size, 0, none⟩)) rfl (fun w1 hb hF => ?_) (fun _ => rfl)) (fun K hK => ?_)
  · go_simp
    all_goals (first | rfl | omega)
  try go_simp
  refine hK _ ?_; clear hK K
  -- 1
  refine obls_cons (oblR_const (.int .i64 k) rfl (fun w1 hb hF => ?_) (fun _ => rfl)) (fun K hK => ?_)
  · have e0 : vs 0 = .pointer (some ⟨w.heap.size, 0, none⟩) := hF 0 (by decide) (by kernel_rfl); have k0 := (HKB.out.keep ((Below.refl _ _).drew.trans hb)).at_ 0 rfl; go_simp
    all_goals (first | rfl | omega)
  try go_simp
  refine hK _ ?_; clear hK K
  -- 2
  refine obls_cons (oblR_const (.int .u8 k) rfl (fun w1 hb hF => ?_) (fun _ => rfl)) (fun K hK => ?_)
  · have e1 : vs 1 = .int .i64 k := hF 1 (by decide) (by kernel_rfl); go_simp
    all_goals (first | rfl | omega)
  try go_simp
  refine hK _ ?_; clear hK K
  -- 3
  refine obls_cons (oblR_val rfl (fun w1 hb hF => ?_)) (fun K hK => ?_)
  · have e2 : vs 2 = .int .u8 k := hF 2 (by decide) (by kernel_rfl); refine ⟨.slice (some ⟨w1.heap.size, 0, none⟩) 1 1, w1.alloc (.cells #[.int .u8 k] 5), ?_, box_below _ _, ⟨_, rfl, Bk.new _ _ _⟩⟩; go_simp
    all_goals (first | rfl | omega)
  try go_simp
  refine hK _ ?_; clear hK K
  -- 4
  refine obls_cons (oblR_const (.string C) rfl (fun w1 hb hF => ?_) (fun _ => rfl)) (fun K hK => ?_)
  · obtain ⟨g, e3, hg⟩ : OneB k (vs 3) w1 := hF 3 (by decide) (by kernel_rfl)
    have hcv := HKV.out _ _ hg
    go_simp
    all_goals (first | rfl | omega)
  try go_simp
  refine hK _ ?_; clear hK K
  -- 5
  refine obls_cons (oblR_const (.pointer (some ⟨w.heap.size, 1, none⟩)) rfl (fun w1 hb hF => ?_) (fun _ => rfl)) (fun K hK => ?_)
  · go_simp
    all_goals (first | rfl | omega)
  try go_simp
  refine hK _ ?_; clear hK K
  -- 6
  refine obls_cons (oblR_const (.int .i64 s) rfl (fun w1 hb hF => ?_) (fun _ => rfl)) (fun K hK => ?_)
  · have e5 : vs 5 = .pointer (some ⟨w.heap.size, 1, none⟩) := hF 5 (by decide) (by kernel_rfl); have k1 := (HKB.out.keep ((Below.refl _ _).drew.trans hb)).at_ 1 rfl; go_simp
    all_goals (first | rfl | omega)
  try go_simp
  refine hK _ ?_; clear hK K
  -- 7
  refine obls_cons (oblR_const (.int .u64 s) rfl (fun w1 hb hF => ?_) (fun _ => rfl)) (fun K hK => ?_)
  · have e6 : vs 6 = .int .i64 s := hF 6 (by decide) (by kernel_rfl); go_simp
    all_goals (first | rfl | omega)
  try go_simp
  refine hK _ ?_; clear hK K
  -- 8
  refine obls_cons (oblR_call 40 #[.int .u64 s] rfl (fun w1 hb hF => ?_) (fun w1 hb => call_const (HPS.out w1) (fun _ => rfl))) (fun K hK => ?_)
  · have e7 : vs 7 = .int .u64 s := hF 7 (by decide) (by kernel_rfl); go_simp
    all_goals (first | rfl | omega)
  try go_simp
  refine hK _ ?_; clear hK K
  -- 9
  refine obls_cons (oblR_const (.string (C ++ A)) rfl (fun w1 hb hF => ?_) (fun _ => rfl)) (fun K hK => ?_)
  · have e4 : vs 4 = .string C := hF 4 (by decide) (by kernel_rfl); have e8 : vs 8 = .string A := hF 8 (by decide) (by kernel_rfl); go_simp
    all_goals (first | rfl | omega)
  try go_simp
  refine hK _ ?_; clear hK K
  -- 10
  refine obls_cons (oblR_const (.pointer (some ⟨w.heap.size, 2, none⟩)) rfl (fun w1 hb hF => ?_) (fun _ => rfl)) (fun K hK => ?_)
  · go_simp
    all_goals (first | rfl | omega)
  try go_simp
  refine hK _ ?_; clear hK K
  -- 11
  refine obls_cons (oblR_const (.int .i64 n) rfl (fun w1 hb hF => ?_) (fun _ => rfl)) (fun K hK => ?_)
  · have e10 : vs 10 = .pointer (some ⟨w.heap.size, 2, none⟩) := hF 10 (by decide) (by kernel_rfl); have k2 := (HKB.out.keep ((Below.refl _ _).drew.trans hb)).at_ 2 rfl; go_simp
    all_goals (first | rfl | omega)
  try go_simp
  refine hK _ ?_; clear hK K
  -- 12
  refine obls_cons (oblR_const (.int .u64 n) rfl (fun w1 hb hF => ?_) (fun _ => rfl)) (fun K hK => ?_)
  · have e11 : vs 11 = .int .i64 n := hF 11 (by decide) (by kernel_rfl); go_simp
    all_goals (first | rfl | omega)
  try go_simp
  refine hK _ ?_; clear hK K
  -- 13
  refine obls_cons (oblR_call 40 #[.int .u64 n] rfl (fun w1 hb hF => ?_) (fun w1 hb => call_const (HPN.out w1) (fun _ => rfl))) (fun K hK => ?_)
  · have e12 : vs 12 = .int .u64 n := hF 12 (by decide) (by kernel_rfl); go_simp
    all_goals (first | rfl | omega)
  try go_simp
  refine hK _ ?_; clear hK K
  -- 14
  refine obls_cons (oblR_const (.string (C ++ A ++ B)) rfl (fun w1 hb hF => ?_) (fun _ => rfl)) (fun K hK => ?_)
  · have e9 : vs 9 = .string (C ++ A) := hF 9 (by decide) (by kernel_rfl); have e13 : vs 13 = .string B := hF 13 (by decide) (by kernel_rfl); go_simp
    all_goals (first | rfl | omega)
  try go_simp
  refine hK _ ?_; clear hK K
  -- 15
  refine obls_cons (oblR_const (.pointer (some ⟨w.heap.size, 3, none⟩)) rfl (fun w1 hb hF => ?_) (fun _ => rfl)) (fun K hK => ?_)
  · go_simp
    all_goals (first | rfl | omega)
  try go_simp
  refine hK _ ?_; clear hK K
  -- 16
  refine obls_cons (oblR_const (.string d) rfl (fun w1 hb hF => ?_) (fun _ => rfl)) (fun K hK => ?_)
  · have e15 : vs 15 = .pointer (some ⟨w.heap.size, 3, none⟩) := hF 15 (by decide) (by kernel_rfl); have k3 := (HKB.out.keep ((Below.refl _ _).drew.trans hb)).at_ 3 rfl; go_simp
    all_goals (first | rfl | omega)
  try go_simp
  refine hK _ ?_; clear hK K
  -- 17
  refine obls_cons (oblR_const (.int .i64 d.size) rfl (fun w1 hb hF => ?_) (fun _ => rfl)) (fun K hK => ?_)
  · have e16 : vs 16 = .string d := hF 16 (by decide) (by kernel_rfl); go_simp
    all_goals (first | rfl | omega)
  try go_simp
  refine hK _ ?_; clear hK K
  -- 18
  refine obls_cons (oblR_const (.int .u64 d.size) rfl (fun w1 hb hF => ?_) (fun _ => rfl)) (fun K hK => ?_)
  · have e17 : vs 17 = .int .i64 d.size := hF 17 (by decide) (by kernel_rfl); go_simp
    all_goals (first | rfl | omega)
  try go_simp
  refine hK _ ?_; clear hK K
  -- 19
  refine obls_cons (oblR_call 40 #[.int .u64 d.size] rfl (fun w1 hb hF => ?_) (fun w1 hb => call_const (HPD.out w1) (fun _ => rfl))) (fun K hK => ?_)
  · have e18 : vs 18 = .int .u64 d.size := hF 18 (by decide) (by kernel_rfl); go_simp
    all_goals (first | rfl | omega)
  try go_simp
  refine hK _ ?_; clear hK K
  -- 20
  refine obls_cons (oblR_const (.string (C ++ A ++ B ++ D)) rfl (fun w1 hb hF => ?_) (fun _ => rfl)) (fun K hK => ?_)
  · have e14 : vs 14 = .string (C ++ A ++ B) := hF 14 (by decide) (by kernel_rfl); have e19 : vs 19 = .string D := hF 19 (by decide) (by kernel_rfl); go_simp
    all_goals (first | rfl | omega)
  try go_simp
  refine hK _ ?_; clear hK K
  -- 21
  refine obls_cons (oblR_const (.pointer (some ⟨w.heap.size, 3, none⟩)) rfl (fun w1 hb hF => ?_) (fun _ => rfl)) (fun K hK => ?_)
  · go_simp
    all_goals (first | rfl | omega)
  try go_simp
  refine hK _ ?_; clear hK K
  -- 22
  refine obls_cons (oblR_const (.string d) rfl (fun w1 hb hF => ?_) (fun _ => rfl)) (fun K hK => ?_)
  · have e21 : vs 21 = .pointer (some ⟨w.heap.size, 3, none⟩) := hF 21 (by decide) (by kernel_rfl); have k3 := (HKB.out.keep ((Below.refl _ _).drew.trans hb)).at_ 3 rfl; go_simp
    all_goals (first | rfl | omega)
  try go_simp
  refine hK _ ?_; clear hK K
  -- 23
  refine obls_cons (oblR_const (.string (C ++ A ++ B ++ D ++ d)) rfl (fun w1 hb hF => ?_) (fun _ => rfl)) (fun K hK => ?_)
  · have e20 : vs 20 = .string (C ++ A ++ B ++ D) := hF 20 (by decide) (by kernel_rfl); have e22 : vs 22 = .string d := hF 22 (by decide) (by kernel_rfl); go_simp
    all_goals (first | rfl | omega)
  try go_simp
  refine hK _ ?_; clear hK K
  -- 24
  refine obls_cons (oblR_const (.string (C ++ A ++ B ++ D ++ d)) rfl (fun w1 hb hF => ?_) (fun _ => rfl)) (fun K hK => ?_)
  · have e23 : vs 23 = .string (C ++ A ++ B ++ D ++ d) := hF 23 (by decide) (by kernel_rfl); go_simp
    all_goals (first | rfl | omega)
  try go_simp
  refine hK _ ?_; clear hK K
  refine obls_nil ?_
  intro w1 hb hF
  have e24 : vs 24 = .string (C ++ A ++ B ++ D ++ d) := hF 24 (by simp) 
  try simp only [e24]
  go_wp2_with fail
  have hx5 : ¬ 9223372036854775807 < C.size + A.size + B.size + D.size + d.size + 4 := by have := HSZ.out; rw [full_cat, full_cat, full_cat, full_cat] at this; omega
  refine (HSE.out _).mono ?_; rintro e w2 ⟨rfl, hb2⟩
  have h4 := le4_size (crcV (C ++ A ++ B ++ D ++ d).data.toList)
  have HR2 := Lib.hid (show C ++ A ++ B ++ D ++ d ++ ⟨(le4 (crcV (C ++ A ++ B ++ D ++ d).data.toList)).toArray⟩ = frB ⟨k, s, n, d⟩ by rw [← HR.out]; rfl)
  generalize (⟨(le4 (crcV (C ++ A ++ B ++ D ++ d).data.toList)).toArray⟩ : ByteArray) = E4 at *
  have hE : E4.size = 4 := h4
  go_wp2_with fail
  go_ret
  exact ⟨by rw [← HR2.out]; rfl, (HB0.out.trans (hb.mono HB0.out.size)).trans (hb2.mono (HB0.out.trans (hb.mono HB0.out.size)).size)⟩
end Go.Proofs.YtpfkddbhpoeknaaGreatDoor
