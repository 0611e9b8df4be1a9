/- Texts of this claim merged into one: KByte, KRegionR, KBytes, KFrRd, KAwake. -/
import Derived.Test.YtklcfjlmlbnkaaaGreatDoorKBunU
import Derived.Test.YtklcfjlmlbnkaaaGreatDoorKBunG
import Derived.Test.YtklcfjlmlbnkaaaGreatDoorKBunQ
import Derived.Test.YtklcfjlmlbnkaaaGreatDoorKBunF
namespace Go.Proofs.YtklcfjlmlbnkaaaGreatDoor
open Go.RowKit
end Go.Proofs.YtklcfjlmlbnkaaaGreatDoor
namespace Go.Proofs.YtklcfjlmlbnkaaaGreatDoor
open Go.RowKit
theorem Ev {W : World} {g : Nat} {x : Int} (c : UInt8) (hx : x = (c.toNat : Int)) (h : Bk W g 5 #[.int .u8 x]) :
    (convert 107 9 (.slice (some ⟨g, 0, none⟩) 1 1)).run Tryz.prog W = .ok (.string ⟨#[c]⟩) W := by
  subst hx
  refine run_convert_bytes_back _ _ _ _ _ _ [c] Tryz.underlying107 Tryz.underlying5 Tryz.underlying9 fun j hj => ?_
  obtain rfl : j = 0 := (by simpa using hj)
  have : (⟨g, 0, none⟩ : Addr).add 0 = ⟨g, 0, none⟩ := by unfold Addr.add; simp
  rw [this]
  exact h.at_ 0 rfl
theorem rG (w : World) (o : Obj) : Below w.heap.size w (w.alloc o) := (Below.refl _ _).alloc (Nat.le_refl _) _
def OneB (x : Int) (v : Value) (w : World) : Prop := ∃ g, v = .slice (some ⟨g, 0, none⟩) 1 1 ∧ Bk w g 5 #[.int .u8 x]
theorem OneB.kept (x : Int) : ∀ v w w', Below w.heap.size w w' → OneB x v w → OneB x v w' := fun _ _ _ hb ⟨g, h1, h2⟩ => ⟨g, h1, h2.keep hb⟩
theorem mI (a b : ByteArray) : (a ++ b).size = a.size + b.size := ByteArray.size_append
set_option maxHeartbeats 4000000 in
set_option maxRecDepth 100000 in
theorem rH (k s n : Nat) (d : ByteArray) (w : World) (hk : k < 256) (hs : s < 9223372036854775808) (hn : n < 9223372036854775808) (hd : d.size < 4294967281) :
    Calls Tryz.prog 64 #[.agg (aY ⟨k, s, n, d⟩)] w fun e w' => e = .returned (.string (gF ⟨k, s, n, d⟩)) ∧ Below w.heap.size w w' := by
  have hA0 := cP s; have hB0 := cP n; have hD0 := cP d.size
  have HPS := Lib.hid (fun w => iq s w (by omega))
  have HPN := Lib.hid (fun w => iq n w (by omega))
  have HPD := Lib.hid (fun w => iq d.size w (by omega))
  have HC := Lib.hid (show ((k : Int)) = (((UInt8.ofNat k)).toNat : Int) by rw [UInt8.toNat_ofNat']; omega)
  have HR := Lib.hid (show fG (⟨#[UInt8.ofNat k]⟩ ++ ⟨(aM s).toArray⟩ ++ ⟨(aM n).toArray⟩ ++ ⟨(aM d.size).toArray⟩ ++ d) = gF ⟨k, s, n, d⟩ by
    unfold gF; congr 1; refine ByteArray.ext (Array.ext' ?_); simp [ByteArray.data_append, Gw])
  have hA : (⟨(aM s).toArray⟩ : ByteArray).size ≤ 10 := by show (aM s).toArray.size ≤ 10; simp; omega
  have hB : (⟨(aM n).toArray⟩ : ByteArray).size ≤ 10 := by show (aM n).toArray.size ≤ 10; simp; omega
  have hD : (⟨(aM d.size).toArray⟩ : ByteArray).size ≤ 10 := by show (aM d.size).toArray.size ≤ 10; simp; omega
  clear hA0 hB0 hD0
  have hcs : (⟨#[UInt8.ofNat k]⟩ : ByteArray).size = 1 := rfl
  have HKV := Lib.hid (fun W g h => Ev (W := W) (g := g) (UInt8.ofNat k) HC.out h)
  generalize hCe : (⟨#[UInt8.ofNat k]⟩ : ByteArray) = C at *
  generalize (⟨(aM s).toArray⟩ : ByteArray) = A at *
  generalize (⟨(aM n).toArray⟩ : ByteArray) = B at *
  generalize (⟨(aM d.size).toArray⟩ : ByteArray) = D at *
  have hw0 : IntKind.u8.wrap (k : Int) = k := by rw [IntKind.wrap_u8]; omega
  have hw1 : IntKind.u64.wrap (s : Int) = s := by rw [IntKind.wrap_u64]; omega
  have hw2 : IntKind.u64.wrap (n : Int) = n := by rw [IntKind.wrap_u64]; omega
  have hw3 : IntKind.u64.wrap (d.size : Int) = d.size := by rw [IntKind.wrap_u64]; omega
  have hx1 : ¬ 9223372036854775807 < C.size + A.size := by omega
  have hx2 : ¬ 9223372036854775807 < C.size + A.size + B.size := by omega
  have hx3 : ¬ 9223372036854775807 < C.size + A.size + B.size + D.size := by omega
  have hx4 : ¬ 9223372036854775807 < C.size + A.size + B.size + D.size + d.size := by omega
  have HSZ := Lib.hid (show (C ++ A ++ B ++ D ++ d).size ≤ 281474976710656 by rw [mI, mI, mI, mI]; omega)
  have HSE := Lib.hid (fun w => uQ (C ++ A ++ B ++ D ++ d) w HSZ.out)
  clear hk hs hn hd hA hB hD hcs
  have HKB := Lib.hid (Bk.new w FT (aY ⟨k, s, n, d⟩))
  have HB0 := Lib.hid (rG w (.cells (aY ⟨k, s, n, d⟩) FT))
  go_enter Tryz.func64, Tryz.ntmps64
  go_wp2_with fail
  refine tl (Dj [.one (.pointer (some ⟨w.heap.size, 0, none⟩)), .one (.int .i64 k), .one (.int .u8 k), .any (OneB k) (OneB.kept k), .one (.string C), .one (.pointer (some ⟨w.heap.size, 1, none⟩)), .one (.int .i64 s), .one (.int .u64 s), .one (.string A), .one (.string (C ++ A)), .one (.pointer (some ⟨w.heap.size, 2, none⟩)), .one (.int .i64 n), .one (.int .u64 n), .one (.string B), .one (.string (C ++ A ++ B)), .one (.pointer (some ⟨w.heap.size, 3, none⟩)), .one (.string d), .one (.int .i64 d.size), .one (.int .u64 d.size), .one (.string D), .one (.string (C ++ A ++ B ++ D)), .one (.pointer (some ⟨w.heap.size, 3, none⟩)), .one (.string d), .one (.string (C ++ A ++ B ++ D ++ d)), .one (.string (fG (C ++ A ++ B ++ D ++ d))), .one (.string (fG (C ++ A ++ B ++ D ++ d)))]) (by kernel_rfl) (by kernel_rfl) (yE _) (fun vs => ?_)
  refine aT (ba (.pointer (some ⟨w.heap.size, 0, none⟩)) rfl (fun w1 hb hF => ?_) (fun _ => rfl)) (fun K hK => ?_)
  · go_simp
    all_goals (first | rfl | omega)
  try go_simp
  refine hK _ ?_; clear hK K
  refine aT (ba (.int .i64 k) rfl (fun w1 hb hF => ?_) (fun _ => rfl)) (fun K hK => ?_)
  · have e0 : vs 0 = .pointer (some ⟨w.heap.size, 0, none⟩) := hF 0 (by decide) (by kernel_rfl); have k0 := (HKB.out.keep ((Below.refl _ _).drew.trans hb)).at_ 0 rfl; go_simp
    all_goals (first | rfl | omega)
  try go_simp
  refine hK _ ?_; clear hK K
  refine aT (ba (.int .u8 k) rfl (fun w1 hb hF => ?_) (fun _ => rfl)) (fun K hK => ?_)
  · have e1 : vs 1 = .int .i64 k := hF 1 (by decide) (by kernel_rfl); go_simp
    all_goals (first | rfl | omega)
  try go_simp
  refine hK _ ?_; clear hK K
  refine aT (Ay rfl (fun w1 hb hF => ?_)) (fun K hK => ?_)
  · have e2 : vs 2 = .int .u8 k := hF 2 (by decide) (by kernel_rfl); refine ⟨.slice (some ⟨w1.heap.size, 0, none⟩) 1 1, w1.alloc (.cells #[.int .u8 k] 5), ?_, rG _ _, ⟨_, rfl, Bk.new _ _ _⟩⟩; go_simp
    all_goals (first | rfl | omega)
  try go_simp
  refine hK _ ?_; clear hK K
  refine aT (ba (.string C) rfl (fun w1 hb hF => ?_) (fun _ => rfl)) (fun K hK => ?_)
  · obtain ⟨g, e3, hg⟩ : OneB k (vs 3) w1 := hF 3 (by decide) (by kernel_rfl)
    have hcv := HKV.out _ _ hg
    go_simp
    all_goals (first | rfl | omega)
  try go_simp
  refine hK _ ?_; clear hK K
  refine aT (ba (.pointer (some ⟨w.heap.size, 1, none⟩)) rfl (fun w1 hb hF => ?_) (fun _ => rfl)) (fun K hK => ?_)
  · go_simp
    all_goals (first | rfl | omega)
  try go_simp
  refine hK _ ?_; clear hK K
  refine aT (ba (.int .i64 s) rfl (fun w1 hb hF => ?_) (fun _ => rfl)) (fun K hK => ?_)
  · have e5 : vs 5 = .pointer (some ⟨w.heap.size, 1, none⟩) := hF 5 (by decide) (by kernel_rfl); have k1 := (HKB.out.keep ((Below.refl _ _).drew.trans hb)).at_ 1 rfl; go_simp
    all_goals (first | rfl | omega)
  try go_simp
  refine hK _ ?_; clear hK K
  refine aT (ba (.int .u64 s) rfl (fun w1 hb hF => ?_) (fun _ => rfl)) (fun K hK => ?_)
  · have e6 : vs 6 = .int .i64 s := hF 6 (by decide) (by kernel_rfl); go_simp
    all_goals (first | rfl | omega)
  try go_simp
  refine hK _ ?_; clear hK K
  refine aT (kK 41 #[.int .u64 s] rfl (fun w1 hb hF => ?_) (fun w1 hb => js (HPS.out w1) (fun _ => rfl))) (fun K hK => ?_)
  · have e7 : vs 7 = .int .u64 s := hF 7 (by decide) (by kernel_rfl); go_simp
    all_goals (first | rfl | omega)
  try go_simp
  refine hK _ ?_; clear hK K
  refine aT (ba (.string (C ++ A)) rfl (fun w1 hb hF => ?_) (fun _ => rfl)) (fun K hK => ?_)
  · have e4 : vs 4 = .string C := hF 4 (by decide) (by kernel_rfl); have e8 : vs 8 = .string A := hF 8 (by decide) (by kernel_rfl); go_simp
    all_goals (first | rfl | omega)
  try go_simp
  refine hK _ ?_; clear hK K
  refine aT (ba (.pointer (some ⟨w.heap.size, 2, none⟩)) rfl (fun w1 hb hF => ?_) (fun _ => rfl)) (fun K hK => ?_)
  · go_simp
    all_goals (first | rfl | omega)
  try go_simp
  refine hK _ ?_; clear hK K
  refine aT (ba (.int .i64 n) rfl (fun w1 hb hF => ?_) (fun _ => rfl)) (fun K hK => ?_)
  · have e10 : vs 10 = .pointer (some ⟨w.heap.size, 2, none⟩) := hF 10 (by decide) (by kernel_rfl); have k2 := (HKB.out.keep ((Below.refl _ _).drew.trans hb)).at_ 2 rfl; go_simp
    all_goals (first | rfl | omega)
  try go_simp
  refine hK _ ?_; clear hK K
  refine aT (ba (.int .u64 n) rfl (fun w1 hb hF => ?_) (fun _ => rfl)) (fun K hK => ?_)
  · have e11 : vs 11 = .int .i64 n := hF 11 (by decide) (by kernel_rfl); go_simp
    all_goals (first | rfl | omega)
  try go_simp
  refine hK _ ?_; clear hK K
  refine aT (kK 41 #[.int .u64 n] rfl (fun w1 hb hF => ?_) (fun w1 hb => js (HPN.out w1) (fun _ => rfl))) (fun K hK => ?_)
  · have e12 : vs 12 = .int .u64 n := hF 12 (by decide) (by kernel_rfl); go_simp
    all_goals (first | rfl | omega)
  try go_simp
  refine hK _ ?_; clear hK K
  refine aT (ba (.string (C ++ A ++ B)) rfl (fun w1 hb hF => ?_) (fun _ => rfl)) (fun K hK => ?_)
  · have e9 : vs 9 = .string (C ++ A) := hF 9 (by decide) (by kernel_rfl); have e13 : vs 13 = .string B := hF 13 (by decide) (by kernel_rfl); go_simp
    all_goals (first | rfl | omega)
  try go_simp
  refine hK _ ?_; clear hK K
  refine aT (ba (.pointer (some ⟨w.heap.size, 3, none⟩)) rfl (fun w1 hb hF => ?_) (fun _ => rfl)) (fun K hK => ?_)
  · go_simp
    all_goals (first | rfl | omega)
  try go_simp
  refine hK _ ?_; clear hK K
  refine aT (ba (.string d) rfl (fun w1 hb hF => ?_) (fun _ => rfl)) (fun K hK => ?_)
  · have e15 : vs 15 = .pointer (some ⟨w.heap.size, 3, none⟩) := hF 15 (by decide) (by kernel_rfl); have k3 := (HKB.out.keep ((Below.refl _ _).drew.trans hb)).at_ 3 rfl; go_simp
    all_goals (first | rfl | omega)
  try go_simp
  refine hK _ ?_; clear hK K
  refine aT (ba (.int .i64 d.size) rfl (fun w1 hb hF => ?_) (fun _ => rfl)) (fun K hK => ?_)
  · have e16 : vs 16 = .string d := hF 16 (by decide) (by kernel_rfl); go_simp
    all_goals (first | rfl | omega)
  try go_simp
  refine hK _ ?_; clear hK K
  refine aT (ba (.int .u64 d.size) rfl (fun w1 hb hF => ?_) (fun _ => rfl)) (fun K hK => ?_)
  · have e17 : vs 17 = .int .i64 d.size := hF 17 (by decide) (by kernel_rfl); go_simp
    all_goals (first | rfl | omega)
  try go_simp
  refine hK _ ?_; clear hK K
  refine aT (kK 41 #[.int .u64 d.size] rfl (fun w1 hb hF => ?_) (fun w1 hb => js (HPD.out w1) (fun _ => rfl))) (fun K hK => ?_)
  · have e18 : vs 18 = .int .u64 d.size := hF 18 (by decide) (by kernel_rfl); go_simp
    all_goals (first | rfl | omega)
  try go_simp
  refine hK _ ?_; clear hK K
  refine aT (ba (.string (C ++ A ++ B ++ D)) rfl (fun w1 hb hF => ?_) (fun _ => rfl)) (fun K hK => ?_)
  · have e14 : vs 14 = .string (C ++ A ++ B) := hF 14 (by decide) (by kernel_rfl); have e19 : vs 19 = .string D := hF 19 (by decide) (by kernel_rfl); go_simp
    all_goals (first | rfl | omega)
  try go_simp
  refine hK _ ?_; clear hK K
  refine aT (ba (.pointer (some ⟨w.heap.size, 3, none⟩)) rfl (fun w1 hb hF => ?_) (fun _ => rfl)) (fun K hK => ?_)
  · go_simp
    all_goals (first | rfl | omega)
  try go_simp
  refine hK _ ?_; clear hK K
  refine aT (ba (.string d) rfl (fun w1 hb hF => ?_) (fun _ => rfl)) (fun K hK => ?_)
  · have e21 : vs 21 = .pointer (some ⟨w.heap.size, 3, none⟩) := hF 21 (by decide) (by kernel_rfl); have k3 := (HKB.out.keep ((Below.refl _ _).drew.trans hb)).at_ 3 rfl; go_simp
    all_goals (first | rfl | omega)
  try go_simp
  refine hK _ ?_; clear hK K
  refine aT (ba (.string (C ++ A ++ B ++ D ++ d)) rfl (fun w1 hb hF => ?_) (fun _ => rfl)) (fun K hK => ?_)
  · have e20 : vs 20 = .string (C ++ A ++ B ++ D) := hF 20 (by decide) (by kernel_rfl); have e22 : vs 22 = .string d := hF 22 (by decide) (by kernel_rfl); go_simp
    all_goals (first | rfl | omega)
  try go_simp
  refine hK _ ?_; clear hK K
  refine aT (kK 96 #[.string (C ++ A ++ B ++ D ++ d)] rfl (fun w1 hb hF => ?_) (fun w1 hb => js (HSE.out w1) (fun _ => rfl))) (fun K hK => ?_)
  · have e23 : vs 23 = .string (C ++ A ++ B ++ D ++ d) := hF 23 (by decide) (by kernel_rfl); go_simp
    all_goals (first | rfl | omega)
  try go_simp
  refine hK _ ?_; clear hK K
  refine aT (ba (.string (fG (C ++ A ++ B ++ D ++ d))) rfl (fun w1 hb hF => ?_) (fun _ => rfl)) (fun K hK => ?_)
  · have e24 : vs 24 = .string (fG (C ++ A ++ B ++ D ++ d)) := hF 24 (by decide) (by kernel_rfl); go_simp
    all_goals (first | rfl | omega)
  try go_simp
  refine hK _ ?_; clear hK K
  refine Ax ?_
  intro w1 hb hF
  have e25 : vs 25 = .string (fG (C ++ A ++ B ++ D ++ d)) := hF 25 (by simp) 
  try simp only [e25]
  go_wp2_with fail
  go_ret
  exact ⟨by rw [HR.out]; rfl, HB0.out.trans (hb.mono HB0.out.size)⟩
end Go.Proofs.YtklcfjlmlbnkaaaGreatDoor
namespace Go.Proofs.YtklcfjlmlbnkaaaGreatDoor
open Go.RowKit
def CO (R : BU) (w : World) (e : Ending) (w' : World) : Prop := e = .returned (.tuple #[.agg (aY R.frame), .int .i64 R.n, .int .i64 R.err]) ∧ Below w.heap.size w w'
abbrev dr : Array Value := #[.int .i64 0, .int .i64 0, .int .i64 0, .string ⟨#[]⟩]
theorem nB : AggT Tryz.prog FT 4 := ⟨by kernel_rfl, by kernel_rfl⟩
theorem il {w : World} {g : Nat} {T : TypeId} {cs : Array Value} (h : Bk w g T cs) (hc : cs.size = 4) (a b c d : Value) : Bk ((((w.setCell ⟨g, 0, none⟩ a).setCell ⟨g, 1, none⟩ b).setCell ⟨g, 2, none⟩ c).setCell ⟨g, 3, none⟩ d) g T #[a, b, c, d] := by
  have h2 := (((h.put 0 a).put 1 b).put 2 c).put 3 d
  obtain ⟨l⟩ := cs
  match l, hc with
  | [x0, x1, x2, x3], _ => exact h2
theorem vD (s : ByteArray) (i : Nat) : (s.extract i s.size).data.toList = s.data.toList.drop i := by
  rw [sF, List.take_of_length_le (by rw [Array.length_toList]; exact Nat.le_refl _)]
theorem kG {s : ByteArray} {t u m : Nat} {e : Int} (h : cx (s.extract t s.size) = (u, m, e)) (k : Nat → Nat → BU) : dQ s.data.toList t k = if e = 0 then k u (t + m) else cG e := by
  unfold dQ; rw [← vD]; rw [show cr (s.extract t s.size).data.toList = (u, m, e) from h]
theorem pV {s : ByteArray} {t u m : Nat} {e : Int} (h : cx (s.extract t s.size) = (u, m, e)) (ht : t ≤ s.size) : t + m ≤ s.size := by
  have := A7 h; rw [ByteArray.size_extract] at this; omega
theorem rI (s : ByteArray) (n : Nat) : s.extract 0 n = ⟨(s.data.toList.take n).toArray⟩ := ByteArray.ext (Array.ext' (by rw [sF]; simp))
theorem Ho {f : FuncId} (s : ByteArray) (a : ByteArray) (c : Int) (h : fY s = (a, c)) (hc : ∀ w, Calls Tryz.prog f #[.string s] w fun e w' => e = .returned (.tuple #[.string (fY s).1, .int .i64 (fY s).2]) ∧ Below w.heap.size w w') (w : World) :
    Calls Tryz.prog f #[.string s] w fun e w' => e = .returned (.tuple #[.string a, .int .i64 c]) ∧ Below w.heap.size w w' := by
  have := hc w; rw [h] at this; exact this
theorem CP (s : ByteArray) (h : 0 < s.size) : (s.data.toList.headD 0).toNat = s[0].toNat := by
  have hl : 0 < s.data.toList.length := by rw [Array.length_toList]; exact h
  have e : s.data.toList.headD 0 = s.data.toList[0] := by rw [List.headD_eq_head?_getD, List.head?_eq_getElem?, List.getElem?_eq_getElem hl]; rfl
  rw [e]; rfl
theorem Ew (s : ByteArray) (a u e : Nat) (h : e = a + u) : (⟨((s.data.toList.drop a).take u).toArray⟩ : ByteArray) = s.extract a e := by
  refine ByteArray.ext (Array.ext' ?_)
  rw [sF, h, List.take_drop]
abbrev AT : TypeId := 164
set_option maxHeartbeats 4000000 in
set_option maxRecDepth 100000 in
theorem CQ (s : ByteArray) (w : World) (hg : MLen w) (hs : s.size < 4294967281) :
    Calls Tryz.prog 56 #[.string s] w (CO (aG s.data.toList) w) := by
  have HG := Lib.hid hg; clear hg
  obtain ⟨RR, hRR⟩ : ∃ R, R = aG s.data.toList := ⟨_, rfl⟩
  rw [← hRR]
  have HR0 := Lib.hid hRR; clear hRR
  have HLEN := Lib.hid (show s.data.toList.length = s.size by rw [Array.length_toList]; rfl)
  by_cases hz : s.size = 0
  · obtain ⟨hq1, hq2⟩ := oL hz
    go_enter Tryz.func56, Tryz.ntmps56
    have HRR := Lib.hid (show RR = cG 4 by rw [HR0.out]; unfold aG; rw [if_pos (List.length_eq_zero_iff.1 (by rw [HLEN.out]; exact hz))])
    go_wp2_with fail
    exact bodyPost_ret (v := .tuple #[.agg dr, .int .i64 0, .int .i64 4]) (dS Tryz.results56 _ J J J (Bk.new w FT dr) nB) rfl ⟨by rw [HRR.out]; rfl, bD w _⟩
  obtain ⟨hq1, hq2⟩ := mW hz
  have HR1 := Lib.hid (show RR = dQ s.data.toList 1 fun u1 a1 => dQ s.data.toList a1 fun u2 a2 => dQ s.data.toList a2 fun u3 a3 => fT s.data.toList a3 u1 u2 u3 by
    rw [HR0.out]; unfold aG; rw [if_neg (fun h => hz (by rw [← HLEN.out, h]; rfl))])
  have hs1 : 1 ≤ s.size := by omega
  have hns1 : ¬ (s.size : Int) < 1 := by omega
  obtain ⟨⟨u1, m1, e1⟩, hT1⟩ : ∃ t, cx (s.extract 1 s.size) = t := ⟨_, rfl⟩
  have hl1 := pV hT1 hs1
  have HT1 := Lib.hid (xE _ _ u1 m1 e1 hT1 fun w => kj _ w (by rw [ByteArray.size_extract]; omega))
  rw [kG hT1] at HR1
  have HU1 := Lib.hid (fun (h : e1 = 0) => km (by rw [hT1, h]))
  clear HR0 hz hT1
  go_enter Tryz.func56, Tryz.ntmps56
  go_wp2_with fail
  refine wp_loop_rounds 4 ?_
  rw [rounds_succ]
  go_wp2_with fail
  refine (HT1.out _).mono ?_; rintro e w1 ⟨rfl, rfl⟩
  by_cases he1 : e1 = 0
  case neg =>
    obtain ⟨q1, q2⟩ := cj he1
    have HRR := Lib.hid (show RR = cG e1 by rw [HR1.out, if_neg he1])
    clear he1; go_wp2_with fail
    exact bodyPost_ret (v := .tuple #[.agg dr, .int .i64 0, .int .i64 e1]) (dS Tryz.results56 _ J J J ((Bk.new w FT dr).more _) nB) rfl ⟨by rw [HRR.out]; rfl, (bD w _).alloc (by simp) _⟩
  case pos =>
  subst he1
  have HUB1 := Lib.hid (HU1.out rfl); clear HU1
  rw [if_pos rfl] at HR1
  obtain ⟨a1, ha1⟩ : ∃ a, a = 1 + m1 := ⟨_, rfl⟩
  have hq3 : ((1 : Int) + (m1 : Int)) = (a1 : Int) := by omega
  rw [← ha1] at HR1 hl1
  clear ha1 hns1 hs1
  have hns2 : ¬ (s.size : Int) < a1 := by omega
  obtain ⟨⟨u2, m2, e2⟩, hT2⟩ : ∃ t, cx (s.extract a1 s.size) = t := ⟨_, rfl⟩
  have hl2 := pV hT2 hl1
  have HT2 := Lib.hid (xE _ _ u2 m2 e2 hT2 fun w => kj _ w (by rw [ByteArray.size_extract]; omega))
  rw [kG hT2] at HR1
  have HR2 := HR1; clear HR1
  have HU2 := Lib.hid (fun (h : e2 = 0) => km (by rw [hT2, h]))
  clear hT2
  go_wp2_with fail
  rw [rounds_succ]
  go_wp2_with fail
  refine (HT2.out _).mono ?_; rintro e w2 ⟨rfl, rfl⟩
  by_cases he2 : e2 = 0
  case neg =>
    obtain ⟨q1, q2⟩ := cj he2
    have HRR := Lib.hid (show RR = cG e2 by rw [HR2.out, if_neg he2])
    clear he2; go_wp2_with fail
    exact bodyPost_ret (v := .tuple #[.agg dr, .int .i64 0, .int .i64 e2]) (dS Tryz.results56 _ J J J ((Bk.new w FT dr).more _) nB) rfl ⟨by rw [HRR.out]; rfl, (bD w _).alloc (by simp) _⟩
  case pos =>
  subst he2
  have HUB2 := Lib.hid (HU2.out rfl); clear HU2
  rw [if_pos rfl] at HR2
  obtain ⟨a2, ha2⟩ : ∃ a, a = a1 + m2 := ⟨_, rfl⟩
  have hq4 : ((a1 : Int) + (m2 : Int)) = (a2 : Int) := by omega
  rw [← ha2] at HR2 hl2
  clear ha2 hq3 hns2 hl1
  have hns3 : ¬ (s.size : Int) < a2 := by omega
  obtain ⟨⟨u3, m3, e3⟩, hT3⟩ : ∃ t, cx (s.extract a2 s.size) = t := ⟨_, rfl⟩
  have hl3 := pV hT3 hl2
  have HT3 := Lib.hid (xE _ _ u3 m3 e3 hT3 fun w => kj _ w (by rw [ByteArray.size_extract]; omega))
  rw [kG hT3] at HR2
  have HR3 := HR2; clear HR2
  have HU3 := Lib.hid (fun (h : e3 = 0) => km (by rw [hT3, h]))
  clear hT3
  go_wp2_with fail
  rw [rounds_succ]
  go_wp2_with fail
  refine (HT3.out _).mono ?_; rintro e w3 ⟨rfl, rfl⟩
  by_cases he3 : e3 = 0
  case neg =>
    obtain ⟨q1, q2⟩ := cj he3
    have HRR := Lib.hid (show RR = cG e3 by rw [HR3.out, if_neg he3])
    clear he3; go_wp2_with fail
    exact bodyPost_ret (v := .tuple #[.agg dr, .int .i64 0, .int .i64 e3]) (dS Tryz.results56 _ J J J ((Bk.new w FT dr).more _) nB) rfl ⟨by rw [HRR.out]; rfl, (bD w _).alloc (by simp) _⟩
  case pos =>
  subst he3
  have HUB3 := Lib.hid (HU3.out rfl); clear HU3
  rw [if_pos rfl] at HR3
  obtain ⟨a3, ha3⟩ : ∃ a, a = a2 + m3 := ⟨_, rfl⟩
  have hq5 : ((a2 : Int) + (m3 : Int)) = (a3 : Int) := by omega
  rw [← ha3] at HR3 hl3
  clear ha3 hq4 hns3 hl2
  have hb3 : a3 < 4294967296 := by omega
  have HS := Lib.hid hs; clear hs HT1 HT2 HT3
  by_cases h16 : 16384 < u3
  · have hd := decide_eq_true (show (16384 : Int) < (u3 : Int) by omega)
    go_wp2_with fail
    rw [rounds_succ]
    have HRR := Lib.hid (show RR = cG 3 by rw [HR3.out]; unfold fT; rw [if_pos h16])
    go_wp2_with fail
    exact bodyPost_ret (v := .tuple #[.agg dr, .int .i64 0, .int .i64 3]) (dS Tryz.results56 _ J J J ((Bk.new w FT dr).more _) nB) rfl ⟨by rw [HRR.out]; rfl, (bD w _).alloc (by simp) _⟩
  have hd3 := decide_eq_false (show ¬ (16384 : Int) < (u3 : Int) by omega)
  obtain ⟨en, hen⟩ : ∃ a, a = a3 + u3 := ⟨_, rfl⟩
  have hq6 : (a3 : Int) + (u3 : Int) = (en : Int) := by omega
  have HEN := Lib.hid hen
  by_cases hsh : s.size < en + 4
  · have hd := decide_eq_true (show (s.size : Int) - 4 < (en : Int) by omega)
    have hd2 := decide_eq_true (show (s.size : Int) - (a3 : Int) < (u3 : Int) + 4 by omega)
    have hbe : en < 4300000000 := by omega
    have hw6 : IntKind.i64.wrap (u3 : Int) = u3 := IntWalk.i64_in _ (by omega)
    clear hen hl3
    go_wp2_with fail
    rw [rounds_succ]
    have HRR := Lib.hid (show RR = cG 4 by rw [HR3.out]; unfold fT; rw [if_neg h16, if_pos (by rw [HLEN.out]; have := HEN.out; omega)])
    go_wp2_with fail
    exact bodyPost_ret (v := .tuple #[.agg dr, .int .i64 0, .int .i64 4]) (dS Tryz.results56 _ J J J ((Bk.new w FT dr).more _) nB) rfl ⟨by rw [HRR.out]; rfl, (bD w _).alloc (by simp) _⟩
  have hd4 := decide_eq_false (show ¬ (s.size : Int) - 4 < (en : Int) by omega)
  have hd5 : ¬ (s.size : Int) - 4 < (en : Int) := by omega
  have hd6 : (en : Int) ≤ (s.size : Int) - 4 := by omega
  have hen4 : en + 4 ≤ s.size := by omega
  have HA3 := Lib.hid hl3
  obtain ⟨⟨o1, o2⟩, hO⟩ : ∃ t, fY (s.extract 0 (en + 4)) = t := ⟨_, rfl⟩
  have HR4 := Lib.hid (show RR = if o2 ≠ 0 then cG 25 else if 4294967295 < u1 ∨ 4294967295 < u2 then cG 6 else eE s.data.toList ⟨((s.data.toList.headD 0).toNat : Int), u1, u2, ⟨((s.data.toList.drop a3).take u3).toArray⟩⟩ (en + 4) by
    rw [HR3.out]; unfold fT; rw [if_neg h16, if_neg (by rw [HLEN.out]; omega), ← hen, ← rI, hO])
  have HOE := Lib.hid (fun h : o2 ≠ 0 => show RR = cG 25 by rw [HR4.out, if_pos h])
  have HO := Lib.hid (Ho _ o1 o2 hO fun w => pp (s.extract 0 (en + 4)) w (by rw [ByteArray.size_extract]; have := HS.out; omega))
  clear hO
  have hbe : en < 4300000000 := by have := HS.out; omega
  clear hl3 hsh hen
  have hw6 : IntKind.i64.wrap (u3 : Int) = u3 := IntWalk.i64_in _ (by omega)
  have hs := HS.out
  go_wp2_with fail
  rw [rounds_succ]
  go_wp2_with fail
  clear hs
  refine (HO.out _).mono ?_; rintro e x1 ⟨rfl, hb1⟩
  have HKR1 := Lib.hid (((Bk.new w FT dr).more (.cells #[.int .u64 u1, .int .u64 u2, .int .u64 u3] AT)).keep hb1)
  have HKA1 := Lib.hid ((Bk.new (w.alloc (.cells dr FT)) AT #[.int .u64 u1, .int .u64 u2, .int .u64 u3]).keep hb1)
  have HB1 := Lib.hid (((bD w (.cells dr FT)).alloc (by simp) (.cells #[.int .u64 u1, .int .u64 u2, .int .u64 u3] AT)).trans (hb1.mono (by simp; omega)))
  have hkA := HKA1.out
  rw [show (w.alloc (.cells dr FT)).heap.size = w.heap.size + 1 by simp] at hkA
  have HKA1 := Lib.hid hkA; clear hkA hb1
  by_cases ho2 : o2 = 0
  case neg =>
    obtain ⟨q1, q2⟩ := cj ho2
    clear ho2
    have r0 : x1.cell? ⟨w.heap.size, 0, none⟩ = some (.int .i64 0) := HKR1.out.at_ 0 rfl
    have r1 : x1.cell? ⟨w.heap.size, 1, none⟩ = some (.int .i64 0) := HKR1.out.at_ 1 rfl
    have r2 : x1.cell? ⟨w.heap.size, 2, none⟩ = some (.int .i64 0) := HKR1.out.at_ 2 rfl
    have r3 : x1.cell? ⟨w.heap.size, 3, none⟩ = some (.string ⟨#[]⟩) := HKR1.out.at_ 3 rfl
    have rf := HKR1.out.free
    have HRR := Lib.hid (show RR = cG 25 by exact HOE.out (by simpa using q1))
    go_wp2_with fail
    have HKRz := Lib.hid (il HKR1.out rfl (.int .i64 0) (.int .i64 0) (.int .i64 0) (.string ⟨#[]⟩))
    have HBz := Lib.hid (eK HB1.out (Nat.le_refl _) (.int .i64 0) (.int .i64 0) (.int .i64 0) (.string ⟨#[]⟩))
    exact bodyPost_ret (v := .tuple #[.agg dr, .int .i64 0, .int .i64 25]) (dS Tryz.results56 _ J J J HKRz.out nB) rfl ⟨by rw [HRR.out]; rfl, HBz.out⟩
  case pos =>
  subst ho2
  have HR5 := Lib.hid (show RR = if 4294967295 < u1 ∨ 4294967295 < u2 then cG 6 else eE s.data.toList ⟨((s.data.toList.headD 0).toNat : Int), u1, u2, ⟨((s.data.toList.drop a3).take u3).toArray⟩⟩ (en + 4) by rw [HR4.out, if_neg (by simp)])
  clear HR4 HOE
  have t0 : x1.cell? ⟨w.heap.size + 1, 0, none⟩ = some (.int .u64 u1) := HKA1.out.at_ 0 rfl
  have t1 : x1.cell? ⟨w.heap.size + 1, 1, none⟩ = some (.int .u64 u2) := HKA1.out.at_ 1 rfl
  have r0 : x1.cell? ⟨w.heap.size, 0, none⟩ = some (.int .i64 0) := HKR1.out.at_ 0 rfl
  have r1 : x1.cell? ⟨w.heap.size, 1, none⟩ = some (.int .i64 0) := HKR1.out.at_ 1 rfl
  have r2 : x1.cell? ⟨w.heap.size, 2, none⟩ = some (.int .i64 0) := HKR1.out.at_ 2 rfl
  have r3 : x1.cell? ⟨w.heap.size, 3, none⟩ = some (.string ⟨#[]⟩) := HKR1.out.at_ 3 rfl
  have rf := HKR1.out.free
  by_cases hu1 : 4294967295 < u1
  · have hd7 := decide_eq_true (show (4294967295 : Int) < (u1 : Int) by omega)
    have hd8 := decide_eq_true (show (4294967296 : Int) ≤ (u1 : Int) by omega)
    have HRR := Lib.hid (show RR = cG 6 by rw [HR5.out, if_pos (.inl hu1)])
    go_wp2_with fail
    have HKRz := Lib.hid (il HKR1.out rfl (.int .i64 0) (.int .i64 0) (.int .i64 0) (.string ⟨#[]⟩))
    have HBz := Lib.hid (eK HB1.out (Nat.le_refl _) (.int .i64 0) (.int .i64 0) (.int .i64 0) (.string ⟨#[]⟩))
    exact bodyPost_ret (v := .tuple #[.agg dr, .int .i64 0, .int .i64 6]) (dS Tryz.results56 _ J J J HKRz.out nB) rfl ⟨by rw [HRR.out]; rfl, HBz.out⟩
  have hd7 := decide_eq_false (show ¬ (4294967295 : Int) < (u1 : Int) by omega)
  have hd8 := decide_eq_false (show ¬ (4294967296 : Int) ≤ (u1 : Int) by omega)
  by_cases hu2 : 4294967295 < u2
  · have hd9 := decide_eq_true (show (4294967295 : Int) < (u2 : Int) by omega)
    have hd10 := decide_eq_true (show (4294967296 : Int) ≤ (u2 : Int) by omega)
    have HRR := Lib.hid (show RR = cG 6 by rw [HR5.out, if_pos (.inr hu2)])
    go_wp2_with fail
    have HKRz := Lib.hid (il HKR1.out rfl (.int .i64 0) (.int .i64 0) (.int .i64 0) (.string ⟨#[]⟩))
    have HBz := Lib.hid (eK HB1.out (Nat.le_refl _) (.int .i64 0) (.int .i64 0) (.int .i64 0) (.string ⟨#[]⟩))
    exact bodyPost_ret (v := .tuple #[.agg dr, .int .i64 0, .int .i64 6]) (dS Tryz.results56 _ J J J HKRz.out nB) rfl ⟨by rw [HRR.out]; rfl, HBz.out⟩
  have hd9 := decide_eq_false (show ¬ (4294967295 : Int) < (u2 : Int) by omega)
  have hd10 := decide_eq_false (show ¬ (4294967296 : Int) ≤ (u2 : Int) by omega)
  have hlo : a3 ≤ en := by have := HEN.out; omega
  have hsz1 : 0 < s.size := by omega
  have hes : en ≤ s.size := by omega
  have hw0 : wrap64 (s[0].toNat : Int) = (s[0].toNat : Int) := by exact IntWalk.wrap64_in _ (by have := s[0].toNat_lt; omega)
  have HR6 := Lib.hid (show RR = eE s.data.toList ⟨(s[0].toNat : Int), u1, u2, s.extract a3 en⟩ (en + 4) by
    rw [HR5.out, if_neg (by omega), CP s hsz1, Ew s a3 u3 en HEN.out])
  have HIB := Lib.hid (show w.heap.size + 2 ≤ x1.heap.size from HKA1.out.here)
  clear HR5 HR3 HLEN
  go_wp2_with fail
  clear hd3 hd4 hd5 hd6 h16
  refine dm (InvB (w.heap.size + 2) x1) Fp (by kernel_rfl) (by kernel_rfl) (InvB.refl _ _).drew ?_
  have hiA0 : ∀ w', InvB (w.heap.size + 2) x1 w' → w'.cell? ⟨w.heap.size + 1, 0, none⟩ = some (.int .u64 u1) := fun w' h => (h _ _ (by omega)).trans t0
  have hiA1 : ∀ w', InvB (w.heap.size + 2) x1 w' → w'.cell? ⟨w.heap.size + 1, 1, none⟩ = some (.int .u64 u2) := fun w' h => (h _ _ (by omega)).trans t1
  iterate 14 (first | (refine fy rfl (fun K hK => ?_); try go_simp; refine hK _ _ ?_; clear hK K) | (refine aD J J _ (fun w' hI => by unfold InvB at hI; go_simp; rfl) (fun K hK => ?_); try go_simp; refine hK _ _ ?_; clear hK K) | (refine aD J J _ (fun w' hI => by go_simp; rfl) (fun K hK => ?_); try go_simp; refine hK _ _ ?_; clear hK K) | (refine jV J J J _ (by go_simp; rfl) (fun K hK => ?_); try go_simp; refine hK _ _ ?_; clear hK K))
  have HB2a := Lib.hid (HB1.out.alloc HB1.out.size (.cells dr FT))
  refine bK J J J (fun K hK => ?_); go_simp
  refine hK _ _ ⟨((InvB.refl _ _).alloc HIB.out).drew, ?_⟩; clear hK K
  refine bK J J J (fun K hK => ?_); go_simp
  refine hK _ _ ⟨((InvB.refl _ _).alloc HIB.out).drew, ?_⟩; clear hK K
  refine eD ?_
  have HKF2 := Lib.hid (show Bk ((x1.alloc (.cells (aY (⟨(s[0].toNat : Int), u1, u2, s.extract a3 en⟩ : FrV)) FT)).drew) x1.heap.size FT (aY (⟨(s[0].toNat : Int), u1, u2, s.extract a3 en⟩ : FrV)) from Bk.new x1 FT (aY (⟨(s[0].toNat : Int), u1, u2, s.extract a3 en⟩ : FrV)))
  have HKR2 := Lib.hid (show Bk ((x1.alloc (.cells (aY (⟨(s[0].toNat : Int), u1, u2, s.extract a3 en⟩ : FrV)) FT)).drew) w.heap.size FT dr from HKR1.out.more _)
  have HBF := Lib.hid (show Below w.heap.size w ((x1.alloc (.cells (aY (⟨(s[0].toNat : Int), u1, u2, s.extract a3 en⟩ : FrV)) FT)).drew) from (HB1.out.alloc HB1.out.size _).drew)
  have HGN := Lib.hid (show w.heap.size ≠ x1.heap.size from Nat.ne_of_lt HKR1.out.here)
  have HGB := Lib.hid HB1.out.size
  have HFD := Lib.hid (show (s.extract a3 en).size < 4294967281 by rw [ByteArray.size_extract]; have := HS.out; omega)
  clear HKR1 HKA1 HB1 HB2a t0 t1 r0 r1 r2 r3 rf hiA0 hiA1 HIB hq1 hq2 hw6
  have f0 : ((x1.alloc (.cells (aY (⟨(s[0].toNat : Int), u1, u2, s.extract a3 en⟩ : FrV)) FT)).drew).cell? ⟨x1.heap.size, 0, none⟩ = some (.int .i64 (s[0].toNat : Int)) := HKF2.out.at_ 0 rfl
  go_wp2_with fail
  refine (hJ (⟨(s[0].toNat : Int), u1, u2, s.extract a3 en⟩ : FrV) _ (HG.out.below HBF.out) HFD.out).mono ?_; rintro e x3 ⟨rfl, hb3⟩
  have HKF3 := Lib.hid (HKF2.out.keep hb3); have HKR3 := Lib.hid (HKR2.out.keep hb3); have HB3 := Lib.hid (HBF.out.trans (hb3.mono HBF.out.size))
  clear hb3 HKF2 HKR2 f0
  obtain ⟨c, hc⟩ : ∃ c, ay (⟨(s[0].toNat : Int), u1, u2, s.extract a3 en⟩ : FrV) = c := ⟨_, rfl⟩
  rw [hc]
  have HC := Lib.hid hc; clear hc
  have r0 : x3.cell? ⟨w.heap.size, 0, none⟩ = some (.int .i64 0) := HKR3.out.at_ 0 rfl
  have r1 : x3.cell? ⟨w.heap.size, 1, none⟩ = some (.int .i64 0) := HKR3.out.at_ 1 rfl
  have r2 : x3.cell? ⟨w.heap.size, 2, none⟩ = some (.int .i64 0) := HKR3.out.at_ 2 rfl
  have r3 : x3.cell? ⟨w.heap.size, 3, none⟩ = some (.string ⟨#[]⟩) := HKR3.out.at_ 3 rfl
  have rf := HKR3.out.free
  by_cases hc0 : c = 0
  case neg =>
    obtain ⟨q1, q2⟩ := cj hc0
    by_cases hc4 : c = 4
    · subst hc4
      clear hc0 q1 q2
      have HRR := Lib.hid (show RR = cG 5 by rw [HR6.out]; unfold eE; rw [HC.out, if_pos rfl])
      go_wp2_with fail
      have HKRz := Lib.hid (il HKR3.out rfl (.int .i64 0) (.int .i64 0) (.int .i64 0) (.string ⟨#[]⟩))
      have HBz := Lib.hid (eK HB3.out (Nat.le_refl _) (.int .i64 0) (.int .i64 0) (.int .i64 0) (.string ⟨#[]⟩))
      exact bodyPost_ret (v := .tuple #[.agg dr, .int .i64 0, .int .i64 5]) (dS Tryz.results56 _ J J J HKRz.out nB) rfl ⟨by rw [HRR.out]; rfl, HBz.out⟩
    · obtain ⟨q3, q4⟩ := cj hc4
      have HRR := Lib.hid (show RR = cG c by rw [HR6.out]; unfold eE; rw [HC.out, if_neg hc4, if_pos hc0])
      clear hc0 hc4
      go_wp2_with fail
      have HKRz := Lib.hid (il HKR3.out rfl (.int .i64 0) (.int .i64 0) (.int .i64 0) (.string ⟨#[]⟩))
      have HBz := Lib.hid (eK HB3.out (Nat.le_refl _) (.int .i64 0) (.int .i64 0) (.int .i64 0) (.string ⟨#[]⟩))
      exact bodyPost_ret (v := .tuple #[.agg dr, .int .i64 0, .int .i64 c]) (dS Tryz.results56 _ J J J HKRz.out nB) rfl ⟨by rw [HRR.out]; rfl, HBz.out⟩
  case pos =>
  subst hc0
  have hk0 : s[0].toNat < 256 := s[0].toNat_lt
  have HBY := Lib.hid (fun w => rH s[0].toNat u1 u2 (s.extract a3 en) w hk0 (by omega) (by omega) HFD.out)
  have g0 : x3.cell? ⟨x1.heap.size, 0, none⟩ = some (.int .i64 (s[0].toNat : Int)) := HKF3.out.at_ 0 rfl
  have g1 : x3.cell? ⟨x1.heap.size, 1, none⟩ = some (.int .i64 u1) := HKF3.out.at_ 1 rfl
  have g2 : x3.cell? ⟨x1.heap.size, 2, none⟩ = some (.int .i64 u2) := HKF3.out.at_ 2 rfl
  have g3 : x3.cell? ⟨x1.heap.size, 3, none⟩ = some (.string (s.extract a3 en)) := HKF3.out.at_ 3 rfl
  have hex : (s.extract 0 (en + 4)) = ⟨(s.data.toList.take (en + 4)).toArray⟩ := rI s (en + 4)
  have HRF := Lib.hid (show RR = if gF (⟨(s[0].toNat : Int), u1, u2, s.extract a3 en⟩ : FrV) = s.extract 0 (en + 4) then ⟨(⟨(s[0].toNat : Int), u1, u2, s.extract a3 en⟩ : FrV), en + 4, 0⟩ else cG 5 by
    rw [HR6.out]; unfold eE; rw [HC.out, if_neg (by decide), if_neg (by simp), hex])
  have HN3 := Lib.hid (show x1.heap.size + 1 ≤ x3.heap.size from HKF3.out.here)
  clear HR6 HC hk0 hex
  obtain ⟨FB, hFB⟩ : ∃ b, gF (⟨(s[0].toNat : Int), u1, u2, s.extract a3 en⟩ : FrV) = b := ⟨_, rfl⟩
  rw [hFB] at HRF HBY
  clear hFB
  go_wp2_with fail
  refine dm (InvB (x1.heap.size + 1) x3) Fp (by kernel_rfl) (by kernel_rfl) (InvB.refl _ _).drew ?_
  have hew : ((en : Int) + 4) ≤ (s.size : Int) := by omega
  have hiG0 : ∀ w', InvB (x1.heap.size + 1) x3 w' → w'.cell? ⟨x1.heap.size, 0, none⟩ = some (.int .i64 (s[0].toNat : Int)) := fun w' h => (h _ _ (Nat.lt_succ_self _)).trans g0
  (first | (refine fy rfl (fun K hK => ?_); try go_simp; refine hK _ _ ?_; clear hK K) | (refine aD J J _ (fun w' hI => by unfold InvB at hI; go_simp; rfl) (fun K hK => ?_); try go_simp; refine hK _ _ ?_; clear hK K) | (refine aD J J _ (fun w' hI => by go_simp; rfl) (fun K hK => ?_); try go_simp; refine hK _ _ ?_; clear hK K) | (refine jV J J J _ (by go_simp; rfl) (fun K hK => ?_); try go_simp; refine hK _ _ ?_; clear hK K))
  refine bK J J J (fun K hK => ?_); go_simp
  refine (HBY.out _).mono ?_; rintro e x4 ⟨rfl, hb4⟩; try go_simp
  have HI4 := Lib.hid ((InvB.refl _ _).drew.below hb4 HN3.out)
  have HKF4 := Lib.hid (HKF3.out.draw.keep hb4); have HKR4 := Lib.hid (HKR3.out.draw.keep hb4); have HB4 := Lib.hid (HB3.out.drew.trans (hb4.mono HB3.out.drew.size))
  refine hK _ _ ⟨HI4.out, ?_⟩; clear hK K hb4
  by_cases hfb : FB = s.extract 0 (en + 4)
  · have HRR := Lib.hid (show RR = ⟨(⟨(s[0].toNat : Int), u1, u2, s.extract a3 en⟩ : FrV), en + 4, 0⟩ by rw [HRF.out, if_pos hfb])
    have hqt : (FB.toList == (s.extract 0 (en + 4)).toList) = true := by rw [hfb]; exact beq_self_eq_true _
    clear HRF hfb g0 g1 g2 g3 r0 r1 r2 r3 rf hiG0
    have hpe : (0 : Int) ≤ (en : Int) + 4 := by omega
    have hte : ((en : Int) + 4).toNat = en + 4 := by omega
    have hwe : IntKind.i64.wrap ((en : Int) + 4) = (en : Int) + 4 := IntWalk.i64_in _ (by omega)
    iterate 5 (first | (refine fy rfl (fun K hK => ?_); try go_simp; refine hK _ _ ?_; clear hK K) | (refine aD J J _ (fun w' hI => by unfold InvB at hI; go_simp; rfl) (fun K hK => ?_); try go_simp; refine hK _ _ ?_; clear hK K) | (refine aD J J _ (fun w' hI => by go_simp; rfl) (fun K hK => ?_); try go_simp; refine hK _ _ ?_; clear hK K) | (refine jV J J J _ (by go_simp; rfl) (fun K hK => ?_); try go_simp; refine hK _ _ ?_; clear hK K))
    refine eD ?_
    clear hpe hte hwe
    have r0 : x4.cell? ⟨w.heap.size, 0, none⟩ = some (.int .i64 0) := HKR4.out.at_ 0 rfl
    have r1 : x4.cell? ⟨w.heap.size, 1, none⟩ = some (.int .i64 0) := HKR4.out.at_ 1 rfl
    have r2 : x4.cell? ⟨w.heap.size, 2, none⟩ = some (.int .i64 0) := HKR4.out.at_ 2 rfl
    have r3 : x4.cell? ⟨w.heap.size, 3, none⟩ = some (.string ⟨#[]⟩) := HKR4.out.at_ 3 rfl
    have rf := HKR4.out.free
    have g0 : x4.cell? ⟨x1.heap.size, 0, none⟩ = some (.int .i64 (s[0].toNat : Int)) := HKF4.out.at_ 0 rfl
    have g1 : x4.cell? ⟨x1.heap.size, 1, none⟩ = some (.int .i64 u1) := HKF4.out.at_ 1 rfl
    have g2 : x4.cell? ⟨x1.heap.size, 2, none⟩ = some (.int .i64 u2) := HKF4.out.at_ 2 rfl
    have g3 : x4.cell? ⟨x1.heap.size, 3, none⟩ = some (.string (s.extract a3 en)) := HKF4.out.at_ 3 rfl
    go_wp2_with fail
    have HKRz := Lib.hid (il HKR4.out rfl (.int .i64 (s[0].toNat : Int)) (.int .i64 u1) (.int .i64 u2) (.string (s.extract a3 en)))
    have HBz := Lib.hid (eK HB4.out (Nat.le_refl _) (.int .i64 (s[0].toNat : Int)) (.int .i64 u1) (.int .i64 u2) (.string (s.extract a3 en)))
    exact bodyPost_ret (v := .tuple #[.agg (aY (⟨(s[0].toNat : Int), u1, u2, s.extract a3 en⟩ : FrV)), .int .i64 ((en : Int) + 4), .int .i64 0]) (dS Tryz.results56 _ J J J HKRz.out nB) rfl ⟨by rw [HRR.out]; rfl, HBz.out⟩
  · have hqt : (FB.toList == (s.extract 0 (en + 4)).toList) = false := by
      rw [beq_eq_false_iff_ne]; intro h; refine hfb (ByteArray.ext (Array.ext' ?_)); rwa [ByteArray.toList_eq, ByteArray.toList_eq] at h
    have HRF2 := Lib.hid (show RR = cG 5 by rw [HRF.out, if_neg hfb])
    clear HRF hfb g0 g1 g2 g3 r0 r1 r2 r3 rf hiG0
    have hpe : (0 : Int) ≤ (en : Int) + 4 := by omega
    have hte : ((en : Int) + 4).toNat = en + 4 := by omega
    have hwe : IntKind.i64.wrap ((en : Int) + 4) = (en : Int) + 4 := IntWalk.i64_in _ (by omega)
    iterate 5 (first | (refine fy rfl (fun K hK => ?_); try go_simp; refine hK _ _ ?_; clear hK K) | (refine aD J J _ (fun w' hI => by unfold InvB at hI; go_simp; rfl) (fun K hK => ?_); try go_simp; refine hK _ _ ?_; clear hK K) | (refine aD J J _ (fun w' hI => by go_simp; rfl) (fun K hK => ?_); try go_simp; refine hK _ _ ?_; clear hK K) | (refine jV J J J _ (by go_simp; rfl) (fun K hK => ?_); try go_simp; refine hK _ _ ?_; clear hK K))
    refine eD ?_
    clear hpe hte hwe
    have r0 : x4.cell? ⟨w.heap.size, 0, none⟩ = some (.int .i64 0) := HKR4.out.at_ 0 rfl
    have r1 : x4.cell? ⟨w.heap.size, 1, none⟩ = some (.int .i64 0) := HKR4.out.at_ 1 rfl
    have r2 : x4.cell? ⟨w.heap.size, 2, none⟩ = some (.int .i64 0) := HKR4.out.at_ 2 rfl
    have r3 : x4.cell? ⟨w.heap.size, 3, none⟩ = some (.string ⟨#[]⟩) := HKR4.out.at_ 3 rfl
    have rf := HKR4.out.free
    have HRR := Lib.hid (show RR = cG 5 by exact HRF2.out)
    go_wp2_with fail
    have HKRz := Lib.hid (il HKR4.out rfl (.int .i64 0) (.int .i64 0) (.int .i64 0) (.string ⟨#[]⟩))
    have HBz := Lib.hid (eK HB4.out (Nat.le_refl _) (.int .i64 0) (.int .i64 0) (.int .i64 0) (.string ⟨#[]⟩))
    exact bodyPost_ret (v := .tuple #[.agg dr, .int .i64 0, .int .i64 5]) (dS Tryz.results56 _ J J J HKRz.out nB) rfl ⟨by rw [HRR.out]; rfl, HBz.out⟩
end Go.Proofs.YtklcfjlmlbnkaaaGreatDoor
namespace Go.Proofs.YtklcfjlmlbnkaaaGreatDoor
open Go.RowKit
structure JC where
  bytes : ByteArray
  err : Int
def nC (f : FrV) : JC := if ay f = 0 then ⟨gF f, 0⟩ else ⟨⟨#[]⟩, ay f⟩
theorem Gh {fn : FuncId} (f : FrV) (h : ay f = 0)
    (hb : ∀ (k s n : Nat) (d : ByteArray) (w : World), k < 256 → s < 9223372036854775808 → n < 9223372036854775808 → d.size < 4294967281 → Calls Tryz.prog fn #[.agg (aY ⟨k, s, n, d⟩)] w fun e w' => e = .returned (.string (gF ⟨k, s, n, d⟩)) ∧ Below w.heap.size w w') (w : World) :
    Calls Tryz.prog fn #[.agg (aY f)] w fun e w' => e = .returned (.string (gF f)) ∧ Below w.heap.size w w' := by
  obtain ⟨h1, h2, h3, h4, h5, h6, h7⟩ := nr h
  obtain ⟨k, s, n, d⟩ := f
  simp only at h1 h2 h3 h4 h5 h6 h7
  obtain ⟨k, rfl⟩ : ∃ m : Nat, k = m := ⟨k.toNat, by omega⟩
  obtain ⟨s, rfl⟩ : ∃ m : Nat, s = m := ⟨s.toNat, by omega⟩
  obtain ⟨n, rfl⟩ : ∃ m : Nat, n = m := ⟨n.toNat, by omega⟩
  exact hb k s n d w (by omega) (by omega) (by omega) (by omega)
theorem zZ (f : FrV) (w : World) (hg : MLen w) (hs : f.data.size < 4294967281) :
    Calls Tryz.prog 36 #[.agg (aY f)] w fun e w' => e = .returned (.tuple #[.string (nC f).bytes, .int .i64 (nC f).err]) ∧ Below w.heap.size w w' := by
  have HC := Lib.hid (fun w hg => hJ f w hg hs)
  have HG := Lib.hid hg; clear hg
  have HBF := Lib.hid (fun (h : ay f = 0) => Gh f h rH)
  have HW := Lib.hid (show nC f = if ay f = 0 then ⟨gF f, 0⟩ else ⟨⟨#[]⟩, ay f⟩ from rfl)
  generalize nC f = WR at *
  generalize gF f = B at *
  generalize ay f = c at *
  have HB0 := Lib.hid (bD w (.cells (aY f) FT))
  have HK0 := Lib.hid (Below.refl (w.heap.size + 1) (w.alloc (.cells (aY f) FT)))
  go_enter Tryz.func36, Tryz.ntmps36
  go_wp2_with fail
  refine (HC.out _ (HG.out.below HB0.out)).mono ?_; rintro e w1 ⟨rfl, hb1⟩
  have HK1 := Lib.hid (aQ HK0.out (show w.heap.size + 1 ≤ (w.alloc (.cells (aY f) FT)).heap.size by simp) hb1)
  obtain ⟨c0, c1, c2, c3⟩ := be (f := f) HK1.out
  have HB1 := Lib.hid (br HK1.out)
  clear hb1
  by_cases hc : c = 0
  · subst hc
    have HWR := Lib.hid (show WR = ⟨B, 0⟩ by rw [HW.out, if_pos rfl])
    go_wp2_with fail
    refine (HBF.out (by first | rfl | trivial) _).mono ?_; rintro e w2 ⟨rfl, hb2⟩
    go_wp2_with fail
    go_ret2
    exact ⟨by rw [HWR.out]; rfl, HB1.out.trans (hb2.mono HB1.out.size)⟩
  · have HWR := Lib.hid (show WR = ⟨⟨#[]⟩, c⟩ by rw [HW.out, if_neg hc])
    obtain ⟨q1, q2⟩ := cj hc
    clear hc
    go_wp2_with fail
    go_ret2
    exact ⟨by rw [HWR.out]; rfl, HB1.out⟩
def Jk : jU := ⟨⟨#[97, 46, 83]⟩, ⟨#[71, 101, 116]⟩, 0, []⟩
def Jl : FrV := ⟨3, 1, 0, ⟨#[]⟩⟩
end Go.Proofs.YtklcfjlmlbnkaaaGreatDoor
