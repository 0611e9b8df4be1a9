/- Texts of this claim merged into one: FrRd, Awake. -/
import Derived.Test.YtpfkddbhpoeknaaGreatDoorBytes
import Derived.Test.YtpfkddbhpoeknaaGreatDoorCk
/- frame.Read and its reference: both answer readL. -/
namespace Go.Proofs.YtpfkddbhpoeknaaGreatDoor
open Go.RowKit
def RdPost (R : RdV) (w : World) (e : Ending) (w' : World) : Prop := e = .returned (.tuple #[.agg (fcells R.frame), .int .i64 R.n, .int .i64 R.err]) ∧ Below w.heap.size w w'
abbrev zeroF : Array Value := #[.int .i64 0, .int .i64 0, .int .i64 0, .string ⟨#[]⟩]
theorem aggF : AggT Tryz.prog FT 4 := ⟨by kernel_rfl, by kernel_rfl⟩
theorem four_put {w : World} {g : Nat} {T : TypeId} {cs : Array Value} (h : Bk w g T cs) (hc : cs.size = 4) (a b c d : Value) : Bk ((((w.setCell ⟨g, 0, none⟩ a).setCell ⟨g, 1, none⟩ b).setCell ⟨g, 2, none⟩ c).setCell ⟨g, 3, none⟩ d) g T #[a, b, c, d] := by
  have h2 := (((h.put 0 a).put 1 b).put 2 c).put 3 d
  obtain ⟨l⟩ := cs
  match l, hc with
  | [x0, x1, x2, x3], _ => exact h2
theorem ext_drop (s : ByteArray) (i : Nat) : (s.extract i s.size).data.toList = s.data.toList.drop i := by
  rw [ext_toL, List.take_of_length_le (by rw [Array.length_toList]; exact Nat.le_refl _)]
theorem rdStep_take {s : ByteArray} {t u m : Nat} {e : Int} (h : TakeS (s.extract t s.size) = (u, m, e)) (k : Nat → Nat → RdV) : rdStep s.data.toList t k = if e = 0 then k u (t + m) else rdErr e := by
  unfold rdStep; rw [← ext_drop]; rw [show takeL (s.extract t s.size).data.toList = (u, m, e) from h]
theorem take_len {s : ByteArray} {t u m : Nat} {e : Int} (h : TakeS (s.extract t s.size) = (u, m, e)) (ht : t ≤ s.size) : t + m ≤ s.size := by
  have := takeS_le h; rw [ByteArray.size_extract] at this; omega
theorem ext_takeA (s : ByteArray) (n : Nat) : s.extract 0 n = ⟨(s.data.toList.take n).toArray⟩ := ByteArray.ext (Array.ext' (by rw [ext_toL]; simp))
theorem openC {f : FuncId} (s : ByteArray) (a : ByteArray) (c : Int) (h : openB s = (a, c)) (hc : ∀ w, Calls Tryz.prog f #[.string s] w fun e w' => e = .returned (.tuple #[.string (openB s).1, .int .i64 (openB s).2]) ∧ Below w.heap.size w w') (w : World) :
    Calls Tryz.prog f #[.string s] w fun e w' => e = .returned (.tuple #[.string a, .int .i64 c]) ∧ Below w.heap.size w w' := by
  have := hc w; rw [h] at this; exact this
theorem headD_at (s : ByteArray) (h : 0 < s.size) : (s.data.toList.headD 0).toNat = s[0].toNat := by
  have hl : 0 < s.data.toList.length := by rw [Array.length_toList]; exact h
  have e : s.data.toList.headD 0 = s.data.toList[0] := by rw [List.headD_eq_head?_getD, List.head?_eq_getElem?, List.getElem?_eq_getElem hl]; rfl
  rw [e]; rfl
theorem ext_mid (s : ByteArray) (a u e : Nat) (h : e = a + u) : (⟨((s.data.toList.drop a).take u).toArray⟩ : ByteArray) = s.extract a e := by
  refine ByteArray.ext (Array.ext' ?_)
  rw [ext_toL, h, List.take_drop]
theorem open_four (s : ByteArray) (e : Nat) (h : e + 4 ≤ s.size) : ((openB (s.extract 0 (e + 4))).2 = 0) = ((⟨(le4 (crcV (s.extract 0 e).data.toList)).toArray⟩ : ByteArray) = s.extract e (e + 4)) := by
  have hz : (s.extract 0 (e + 4)).size = e + 4 := by rw [ByteArray.size_extract]; omega
  have h1 : (s.extract 0 (e + 4)).extract 0 e = s.extract 0 e := by
    refine ByteArray.ext (Array.ext' ?_); rw [ext_toL, ext_toL, ext_toL]; simp [List.take_take]
  have h2 : s.extract 0 (e + 4) = s.extract 0 e ++ s.extract e (e + 4) := by
    refine ByteArray.ext (Array.ext' ?_)
    rw [ByteArray.data_append, Array.toList_append, ext_toL, ext_toL, ext_toL, List.drop_zero, List.drop_zero, List.drop_take, show e + 4 - e = 4 by omega, ← List.take_add]
  have hc : ((sealB ((s.extract 0 (e + 4)).extract 0 ((s.extract 0 (e + 4)).size - 4))).toList == (s.extract 0 (e + 4)).toList) = true ↔ (⟨(le4 (crcV (s.extract 0 e).data.toList)).toArray⟩ : ByteArray) = s.extract e (e + 4) := by
    rw [hz, show e + 4 - 4 = e by omega, h1, beq_iff_eq, ByteArray.toList_eq, ByteArray.toList_eq]
    rw [h2]
    unfold sealB
    rw [ByteArray.data_append, ByteArray.data_append, Array.toList_append, Array.toList_append, List.append_cancel_left_eq]
    constructor
    · intro h; exact ByteArray.ext (Array.ext' h)
    · intro h; rw [← h]
  unfold openB
  rw [if_neg (by omega)]
  refine propext ?_
  rw [← hc]
  split
  · rename_i q; exact ⟨fun _ => q, fun _ => rfl⟩
  · rename_i q; exact ⟨fun h => by simp at h, fun h => absurd h q⟩
abbrev AT : TypeId := 65

set_option maxHeartbeats 4000000 in
set_option maxRecDepth 100000 in
theorem read_any (s : ByteArray) (w : World) (hg : MLen w) (hs : s.size < 4294967281) :
    Calls Tryz.prog 13 #[.string s] w (RdPost (readL s.data.toList) w) := by
  have HG := Lib.hid hg; clear hg
  obtain ⟨RR, hRR⟩ : ∃ R, R = readL s.data.toList := ⟨_, rfl⟩
  rw [← hRR]
  have HR0 := Lib.hid hRR; clear hRR
  have HLEN := Lib.hid (show s.data.toList.length = s.size by rw [Array.length_toList]; rfl)
  by_cases hz : s.size = 0
  · obtain ⟨hq1, hq2⟩ := isE_true hz
    go_enter Tryz.func13, Tryz.ntmps13
    have HRR := Lib.hid (show RR = rdErr 4 by rw [HR0.out]; unfold readL; rw [if_pos (List.length_eq_zero_iff.1 (by rw [HLEN.out]; exact hz))])
    go_wp2_with fail
    exact bodyPost_ret (v := .tuple #[.agg zeroF, .int .i64 0, .int .i64 4]) (res_ctt Tryz.results13 _ rfl rfl rfl (Bk.new w FT zeroF) aggF) rfl ⟨by rw [HRR.out]; rfl, below_box w _⟩
  obtain ⟨hq1, hq2⟩ := isE_false hz
  have HR1 := Lib.hid (show RR = rdStep s.data.toList 1 fun u1 a1 => rdStep s.data.toList a1 fun u2 a2 => rdStep s.data.toList a2 fun u3 a3 => rdBody s.data.toList a3 u1 u2 u3 by
    rw [HR0.out]; unfold readL; rw [if_neg (fun h => hz (by rw [← HLEN.out, h]; rfl))])
  have hs1 : 1 ≤ s.size := by omega
  have hns1 : ¬ (s.size : Int) < 1 := by omega
  obtain ⟨⟨u1, m1, e1⟩, hT1⟩ : ∃ t, TakeS (s.extract 1 s.size) = t := ⟨_, rfl⟩
  have hl1 := take_len hT1 hs1
  have HT1 := Lib.hid (takeC _ _ u1 m1 e1 hT1 fun w => take_any _ w (by rw [ByteArray.size_extract]; omega))
  rw [rdStep_take hT1] at HR1
  have HU1 := Lib.hid (fun (h : e1 = 0) => takeS_lt (by rw [hT1, h]))
  clear HR0 hz hT1
  go_enter Tryz.func13, Tryz.ntmps13
  go_wp2_with fail
  refine wp_loop_rounds 4 ?_
  rw [rounds_succ]
  go_wp2_with fail
  refine (HT1.out _).mono ?_; rintro e w1 ⟨rfl, rfl⟩
  by_cases he1 : e1 = 0
  case neg =>
    obtain ⟨q1, q2⟩ := byte_eq he1
    have HRR := Lib.hid (show RR = rdErr e1 by rw [HR1.out, if_neg he1])
    clear he1; go_wp2_with fail
    exact bodyPost_ret (v := .tuple #[.agg zeroF, .int .i64 0, .int .i64 e1]) (res_ctt Tryz.results13 _ rfl rfl rfl ((Bk.new w FT zeroF).more _) aggF) rfl ⟨by rw [HRR.out]; rfl, (below_box w _).alloc (by simp) _⟩
  case pos =>
  subst he1
  have HUB1 := Lib.hid (HU1.out rfl); clear HU1
  rw [if_pos rfl] at HR1
  obtain ⟨a1, ha1⟩ : ∃ a, a = 1 + m1 := ⟨_, rfl⟩
  have hq3 : ((1 : Int) + (m1 : Int)) = (a1 : Int) := by omega
  rw [← ha1] at HR1 hl1
  clear ha1 hns1 hs1
  have hns2 : ¬ (s.size : Int) < a1 := by omega
  obtain ⟨⟨u2, m2, e2⟩, hT2⟩ : ∃ t, TakeS (s.extract a1 s.size) = t := ⟨_, rfl⟩
  have hl2 := take_len hT2 hl1
  have HT2 := Lib.hid (takeC _ _ u2 m2 e2 hT2 fun w => take_any _ w (by rw [ByteArray.size_extract]; omega))
  rw [rdStep_take hT2] at HR1
  have HR2 := HR1; clear HR1
  have HU2 := Lib.hid (fun (h : e2 = 0) => takeS_lt (by rw [hT2, h]))
  clear hT2
  go_wp2_with fail
  rw [rounds_succ]
  go_wp2_with fail
  refine (HT2.out _).mono ?_; rintro e w2 ⟨rfl, rfl⟩
  by_cases he2 : e2 = 0
  case neg =>
    obtain ⟨q1, q2⟩ := byte_eq he2
    have HRR := Lib.hid (show RR = rdErr e2 by rw [HR2.out, if_neg he2])
    clear he2; go_wp2_with fail
    exact bodyPost_ret (v := .tuple #[.agg zeroF, .int .i64 0, .int .i64 e2]) (res_ctt Tryz.results13 _ rfl rfl rfl ((Bk.new w FT zeroF).more _) aggF) rfl ⟨by rw [HRR.out]; rfl, (below_box w _).alloc (by simp) _⟩
  case pos =>
  subst he2
  have HUB2 := Lib.hid (HU2.out rfl); clear HU2
  rw [if_pos rfl] at HR2
  obtain ⟨a2, ha2⟩ : ∃ a, a = a1 + m2 := ⟨_, rfl⟩
  have hq4 : ((a1 : Int) + (m2 : Int)) = (a2 : Int) := by omega
  rw [← ha2] at HR2 hl2
  clear ha2 hq3 hns2 hl1
  have hns3 : ¬ (s.size : Int) < a2 := by omega
  obtain ⟨⟨u3, m3, e3⟩, hT3⟩ : ∃ t, TakeS (s.extract a2 s.size) = t := ⟨_, rfl⟩
  have hl3 := take_len hT3 hl2
  have HT3 := Lib.hid (takeC _ _ u3 m3 e3 hT3 fun w => take_any _ w (by rw [ByteArray.size_extract]; omega))
  rw [rdStep_take hT3] at HR2
  have HR3 := HR2; clear HR2
  have HU3 := Lib.hid (fun (h : e3 = 0) => takeS_lt (by rw [hT3, h]))
  clear hT3
  go_wp2_with fail
  rw [rounds_succ]
  go_wp2_with fail
  refine (HT3.out _).mono ?_; rintro e w3 ⟨rfl, rfl⟩
  by_cases he3 : e3 = 0
  case neg =>
    obtain ⟨q1, q2⟩ := byte_eq he3
    have HRR := Lib.hid (show RR = rdErr e3 by rw [HR3.out, if_neg he3])
    clear he3; go_wp2_with fail
    exact bodyPost_ret (v := .tuple #[.agg zeroF, .int .i64 0, .int .i64 e3]) (res_ctt Tryz.results13 _ rfl rfl rfl ((Bk.new w FT zeroF).more _) aggF) rfl ⟨by rw [HRR.out]; rfl, (below_box w _).alloc (by simp) _⟩
  case pos =>
  subst he3
  have HUB3 := Lib.hid (HU3.out rfl); clear HU3
  rw [if_pos rfl] at HR3
  obtain ⟨a3, ha3⟩ : ∃ a, a = a2 + m3 := ⟨_, rfl⟩
  have hq5 : ((a2 : Int) + (m3 : Int)) = (a3 : Int) := by omega
  rw [← ha3] at HR3 hl3
  clear ha3 hq4 hns3 hl2
  have hb3 : a3 < 4294967296 := by omega
  have HS := Lib.hid hs; clear hs HT1 HT2 HT3
  by_cases h16 : 16384 < u3
  · have hd := decide_eq_true (show (16384 : Int) < (u3 : Int) by omega)
    go_wp2_with fail
    rw [rounds_succ]
    have HRR := Lib.hid (show RR = rdErr 3 by rw [HR3.out]; unfold rdBody; rw [if_pos h16])
    go_wp2_with fail
    exact bodyPost_ret (v := .tuple #[.agg zeroF, .int .i64 0, .int .i64 3]) (res_ctt Tryz.results13 _ rfl rfl rfl ((Bk.new w FT zeroF).more _) aggF) rfl ⟨by rw [HRR.out]; rfl, (below_box w _).alloc (by simp) _⟩
  have hd3 := decide_eq_false (show ¬ (16384 : Int) < (u3 : Int) by omega)
  obtain ⟨en, hen⟩ : ∃ a, a = a3 + u3 := ⟨_, rfl⟩
  have hq6 : (a3 : Int) + (u3 : Int) = (en : Int) := by omega
  have HEN := Lib.hid hen
  by_cases hsh : s.size < en + 4
  · have hd := decide_eq_true (show (s.size : Int) - 4 < (en : Int) by omega)
    have hd2 := decide_eq_true (show (s.size : Int) - (a3 : Int) < (u3 : Int) + 4 by omega)
    have hbe : en < 4300000000 := by omega
    have hw6 : IntKind.i64.wrap (u3 : Int) = u3 := IntWalk.i64_in _ (by omega)
    clear hen hl3
    go_wp2_with fail
    rw [rounds_succ]
    have HRR := Lib.hid (show RR = rdErr 4 by rw [HR3.out]; unfold rdBody; rw [if_neg h16, if_pos (by rw [HLEN.out]; have := HEN.out; omega)])
    go_wp2_with fail
    exact bodyPost_ret (v := .tuple #[.agg zeroF, .int .i64 0, .int .i64 4]) (res_ctt Tryz.results13 _ rfl rfl rfl ((Bk.new w FT zeroF).more _) aggF) rfl ⟨by rw [HRR.out]; rfl, (below_box w _).alloc (by simp) _⟩
  have hd4 := decide_eq_false (show ¬ (s.size : Int) - 4 < (en : Int) by omega)
  have hd5 : ¬ (s.size : Int) - 4 < (en : Int) := by omega
  have hd6 : (en : Int) ≤ (s.size : Int) - 4 := by omega
  have hen4 : en + 4 ≤ s.size := by omega
  have HA3 := Lib.hid hl3
  obtain ⟨⟨o1, o2⟩, hO⟩ : ∃ t, openB (s.extract 0 (en + 4)) = t := ⟨_, rfl⟩
  have HR4 := Lib.hid (show RR = if o2 ≠ 0 then rdErr 25 else if 4294967295 < u1 ∨ 4294967295 < u2 then rdErr 6 else rdFrame s.data.toList ⟨((s.data.toList.headD 0).toNat : Int), u1, u2, ⟨((s.data.toList.drop a3).take u3).toArray⟩⟩ (en + 4) by
    rw [HR3.out]; unfold rdBody; rw [if_neg h16, if_neg (by rw [HLEN.out]; omega), ← hen, ← ext_takeA, hO])
  have HOE := Lib.hid (fun h : o2 ≠ 0 => show RR = rdErr 25 by rw [HR4.out, if_pos h])
  have HO := Lib.hid (openC _ o1 o2 hO fun w => open_any (s.extract 0 (en + 4)) w (by rw [ByteArray.size_extract]; have := HS.out; omega))
  clear hO
  have hbe : en < 4300000000 := by have := HS.out; omega
  clear hl3 hsh hen
  have hw6 : IntKind.i64.wrap (u3 : Int) = u3 := IntWalk.i64_in _ (by omega)
  have hs := HS.out
  go_wp2_with fail
  rw [rounds_succ]
  go_wp2_with fail
  clear hs
  refine (HO.out _).mono ?_; rintro e x1 ⟨rfl, hb1⟩
  have HKR1 := Lib.hid (((Bk.new w FT zeroF).more (.cells #[.int .u64 u1, .int .u64 u2, .int .u64 u3] AT)).keep hb1)
  have HKA1 := Lib.hid ((Bk.new (w.alloc (.cells zeroF FT)) AT #[.int .u64 u1, .int .u64 u2, .int .u64 u3]).keep hb1)
  have HB1 := Lib.hid (((below_box w (.cells zeroF FT)).alloc (by simp) (.cells #[.int .u64 u1, .int .u64 u2, .int .u64 u3] AT)).trans (hb1.mono (by simp; omega)))
  have hkA := HKA1.out
  rw [show (w.alloc (.cells zeroF FT)).heap.size = w.heap.size + 1 by simp] at hkA
  have HKA1 := Lib.hid hkA; clear hkA hb1
  by_cases ho2 : o2 = 0
  case neg =>
    obtain ⟨q1, q2⟩ := byte_eq ho2
    clear ho2
    have r0 : x1.cell? ⟨w.heap.size, 0, none⟩ = some (.int .i64 0) := HKR1.out.at_ 0 rfl
    have r1 : x1.cell? ⟨w.heap.size, 1, none⟩ = some (.int .i64 0) := HKR1.out.at_ 1 rfl
    have r2 : x1.cell? ⟨w.heap.size, 2, none⟩ = some (.int .i64 0) := HKR1.out.at_ 2 rfl
    have r3 : x1.cell? ⟨w.heap.size, 3, none⟩ = some (.string ⟨#[]⟩) := HKR1.out.at_ 3 rfl
    have rf := HKR1.out.free
    have HRR := Lib.hid (show RR = rdErr 25 by exact HOE.out (by simpa using q1))
    go_wp2_with fail
    have HKRz := Lib.hid (four_put HKR1.out rfl (.int .i64 0) (.int .i64 0) (.int .i64 0) (.string ⟨#[]⟩))
    have HBz := Lib.hid (four_below HB1.out (Nat.le_refl _) (.int .i64 0) (.int .i64 0) (.int .i64 0) (.string ⟨#[]⟩))
    exact bodyPost_ret (v := .tuple #[.agg zeroF, .int .i64 0, .int .i64 25]) (res_ctt Tryz.results13 _ rfl rfl rfl HKRz.out aggF) rfl ⟨by rw [HRR.out]; rfl, HBz.out⟩
  case pos =>
  subst ho2
  have HR5 := Lib.hid (show RR = if 4294967295 < u1 ∨ 4294967295 < u2 then rdErr 6 else rdFrame s.data.toList ⟨((s.data.toList.headD 0).toNat : Int), u1, u2, ⟨((s.data.toList.drop a3).take u3).toArray⟩⟩ (en + 4) by rw [HR4.out, if_neg (by simp)])
  clear HR4 HOE
  have t0 : x1.cell? ⟨w.heap.size + 1, 0, none⟩ = some (.int .u64 u1) := HKA1.out.at_ 0 rfl
  have t1 : x1.cell? ⟨w.heap.size + 1, 1, none⟩ = some (.int .u64 u2) := HKA1.out.at_ 1 rfl
  have r0 : x1.cell? ⟨w.heap.size, 0, none⟩ = some (.int .i64 0) := HKR1.out.at_ 0 rfl
  have r1 : x1.cell? ⟨w.heap.size, 1, none⟩ = some (.int .i64 0) := HKR1.out.at_ 1 rfl
  have r2 : x1.cell? ⟨w.heap.size, 2, none⟩ = some (.int .i64 0) := HKR1.out.at_ 2 rfl
  have r3 : x1.cell? ⟨w.heap.size, 3, none⟩ = some (.string ⟨#[]⟩) := HKR1.out.at_ 3 rfl
  have rf := HKR1.out.free
  by_cases hu1 : 4294967295 < u1
  · have hd7 := decide_eq_true (show (4294967295 : Int) < (u1 : Int) by omega)
    have hd8 := decide_eq_true (show (4294967296 : Int) ≤ (u1 : Int) by omega)
    have HRR := Lib.hid (show RR = rdErr 6 by rw [HR5.out, if_pos (.inl hu1)])
    go_wp2_with fail
    have HKRz := Lib.hid (four_put HKR1.out rfl (.int .i64 0) (.int .i64 0) (.int .i64 0) (.string ⟨#[]⟩))
    have HBz := Lib.hid (four_below HB1.out (Nat.le_refl _) (.int .i64 0) (.int .i64 0) (.int .i64 0) (.string ⟨#[]⟩))
    exact bodyPost_ret (v := .tuple #[.agg zeroF, .int .i64 0, .int .i64 6]) (res_ctt Tryz.results13 _ rfl rfl rfl HKRz.out aggF) rfl ⟨by rw [HRR.out]; rfl, HBz.out⟩
  have hd7 := decide_eq_false (show ¬ (4294967295 : Int) < (u1 : Int) by omega)
  have hd8 := decide_eq_false (show ¬ (4294967296 : Int) ≤ (u1 : Int) by omega)
  by_cases hu2 : 4294967295 < u2
  · have hd9 := decide_eq_true (show (4294967295 : Int) < (u2 : Int) by omega)
    have hd10 := decide_eq_true (show (4294967296 : Int) ≤ (u2 : Int) by omega)
    have HRR := Lib.hid (show RR = rdErr 6 by rw [HR5.out, if_pos (.inr hu2)])
    go_wp2_with fail
    have HKRz := Lib.hid (four_put HKR1.out rfl (.int .i64 0) (.int .i64 0) (.int .i64 0) (.string ⟨#[]⟩))
    have HBz := Lib.hid (four_below HB1.out (Nat.le_refl _) (.int .i64 0) (.int .i64 0) (.int .i64 0) (.string ⟨#[]⟩))
    exact bodyPost_ret (v := .tuple #[.agg zeroF, .int .i64 0, .int .i64 6]) (res_ctt Tryz.results13 _ rfl rfl rfl HKRz.out aggF) rfl ⟨by rw [HRR.out]; rfl, HBz.out⟩
  have hd9 := decide_eq_false (show ¬ (4294967295 : Int) < (u2 : Int) by omega)
  have hd10 := decide_eq_false (show ¬ (4294967296 : Int) ≤ (u2 : Int) by omega)
  have hlo : a3 ≤ en := by have := HEN.out; omega
  have hsz1 : 0 < s.size := by omega
  have hes : en ≤ s.size := by omega
  have hw0 : wrap64 (s[0].toNat : Int) = (s[0].toNat : Int) := by exact IntWalk.wrap64_in _ (by have := s[0].toNat_lt; omega)
  have HR6 := Lib.hid (show RR = rdFrame s.data.toList ⟨(s[0].toNat : Int), u1, u2, s.extract a3 en⟩ (en + 4) by
    rw [HR5.out, if_neg (by omega), headD_at s hsz1, ext_mid s a3 u3 en HEN.out])
  have HIB := Lib.hid (show w.heap.size + 2 ≤ x1.heap.size from HKA1.out.here)
  clear HR5 HR3 HLEN
  go_wp2_with fail
  clear hd3 hd4 hd5 hd6 h16
  refine wp_region_T (InvB (w.heap.size + 2) x1) kf4 (by kernel_rfl) (by kernel_rfl) (InvB.refl _ _).drew ?_
  have hiA0 : ∀ w', InvB (w.heap.size + 2) x1 w' → w'.cell? ⟨w.heap.size + 1, 0, none⟩ = some (.int .u64 u1) := fun w' h => (h _ _ (by omega)).trans t0
  have hiA1 : ∀ w', InvB (w.heap.size + 2) x1 w' → w'.cell? ⟨w.heap.size + 1, 1, none⟩ = some (.int .u64 u2) := fun w' h => (h _ _ (by omega)).trans t1
  iterate 14 (first | (refine wpT_skip rfl (fun K hK => ?_); try go_simp; refine hK _ _ ?_; clear hK K) | (refine wpT_pure rfl rfl _ (fun w' hI => by unfold InvB at hI; go_simp; rfl) (fun K hK => ?_); try go_simp; refine hK _ _ ?_; clear hK K) | (refine wpT_pure rfl rfl _ (fun w' hI => by go_simp; rfl) (fun K hK => ?_); try go_simp; refine hK _ _ ?_; clear hK K) | (refine wpT_read rfl rfl rfl _ (by go_simp; rfl) (fun K hK => ?_); try go_simp; refine hK _ _ ?_; clear hK K))
  have HB2a := Lib.hid (HB1.out.alloc HB1.out.size (.cells zeroF FT))
  refine wpT_act rfl rfl rfl (fun K hK => ?_); go_simp
  refine hK _ _ ⟨((InvB.refl _ _).alloc HIB.out).drew, ?_⟩; clear hK K
  refine wpT_act rfl rfl rfl (fun K hK => ?_); go_simp
  refine hK _ _ ⟨((InvB.refl _ _).alloc HIB.out).drew, ?_⟩; clear hK K
  refine wpT_nil ?_
  have HKF2 := Lib.hid (show Bk ((x1.alloc (.cells (fcells (⟨(s[0].toNat : Int), u1, u2, s.extract a3 en⟩ : FrV)) FT)).drew) x1.heap.size FT (fcells (⟨(s[0].toNat : Int), u1, u2, s.extract a3 en⟩ : FrV)) from Bk.new x1 FT (fcells (⟨(s[0].toNat : Int), u1, u2, s.extract a3 en⟩ : FrV)))
  have HKR2 := Lib.hid (show Bk ((x1.alloc (.cells (fcells (⟨(s[0].toNat : Int), u1, u2, s.extract a3 en⟩ : FrV)) FT)).drew) w.heap.size FT zeroF from HKR1.out.more _)
  have HBF := Lib.hid (show Below w.heap.size w ((x1.alloc (.cells (fcells (⟨(s[0].toNat : Int), u1, u2, s.extract a3 en⟩ : FrV)) FT)).drew) from (HB1.out.alloc HB1.out.size _).drew)
  have HGN := Lib.hid (show w.heap.size ≠ x1.heap.size from Nat.ne_of_lt HKR1.out.here)
  have HGB := Lib.hid HB1.out.size
  have HFD := Lib.hid (show (s.extract a3 en).size < 4294967281 by rw [ByteArray.size_extract]; have := HS.out; omega)
  clear HKR1 HKA1 HB1 HB2a t0 t1 r0 r1 r2 r3 rf hiA0 hiA1 HIB hq1 hq2 hw6
  have f0 : ((x1.alloc (.cells (fcells (⟨(s[0].toNat : Int), u1, u2, s.extract a3 en⟩ : FrV)) FT)).drew).cell? ⟨x1.heap.size, 0, none⟩ = some (.int .i64 (s[0].toNat : Int)) := HKF2.out.at_ 0 rfl
  go_wp2_with fail
  refine (fcheck_any (⟨(s[0].toNat : Int), u1, u2, s.extract a3 en⟩ : FrV) _ (HG.out.below HBF.out) HFD.out).mono ?_; rintro e x3 ⟨rfl, hb3⟩
  have HKF3 := Lib.hid (HKF2.out.keep hb3); have HKR3 := Lib.hid (HKR2.out.keep hb3); have HB3 := Lib.hid (HBF.out.trans (hb3.mono HBF.out.size))
  clear hb3 HKF2 HKR2 f0
  obtain ⟨c, hc⟩ : ∃ c, frameE (⟨(s[0].toNat : Int), u1, u2, s.extract a3 en⟩ : FrV) = c := ⟨_, rfl⟩
  rw [hc]
  have HC := Lib.hid hc; clear hc
  have r0 : x3.cell? ⟨w.heap.size, 0, none⟩ = some (.int .i64 0) := HKR3.out.at_ 0 rfl
  have r1 : x3.cell? ⟨w.heap.size, 1, none⟩ = some (.int .i64 0) := HKR3.out.at_ 1 rfl
  have r2 : x3.cell? ⟨w.heap.size, 2, none⟩ = some (.int .i64 0) := HKR3.out.at_ 2 rfl
  have r3 : x3.cell? ⟨w.heap.size, 3, none⟩ = some (.string ⟨#[]⟩) := HKR3.out.at_ 3 rfl
  have rf := HKR3.out.free
  by_cases hc0 : c = 0
  case neg =>
    obtain ⟨q1, q2⟩ := byte_eq hc0
    by_cases hc4 : c = 4
    · subst hc4
      clear hc0 q1 q2
      have HRR := Lib.hid (show RR = rdErr 5 by rw [HR6.out]; unfold rdFrame; rw [HC.out, if_pos rfl])
      go_wp2_with fail
      have HKRz := Lib.hid (four_put HKR3.out rfl (.int .i64 0) (.int .i64 0) (.int .i64 0) (.string ⟨#[]⟩))
      have HBz := Lib.hid (four_below HB3.out (Nat.le_refl _) (.int .i64 0) (.int .i64 0) (.int .i64 0) (.string ⟨#[]⟩))
      exact bodyPost_ret (v := .tuple #[.agg zeroF, .int .i64 0, .int .i64 5]) (res_ctt Tryz.results13 _ rfl rfl rfl HKRz.out aggF) rfl ⟨by rw [HRR.out]; rfl, HBz.out⟩
    · obtain ⟨q3, q4⟩ := byte_eq hc4
      have HRR := Lib.hid (show RR = rdErr c by rw [HR6.out]; unfold rdFrame; rw [HC.out, if_neg hc4, if_pos hc0])
      clear hc0 hc4
      go_wp2_with fail
      have HKRz := Lib.hid (four_put HKR3.out rfl (.int .i64 0) (.int .i64 0) (.int .i64 0) (.string ⟨#[]⟩))
      have HBz := Lib.hid (four_below HB3.out (Nat.le_refl _) (.int .i64 0) (.int .i64 0) (.int .i64 0) (.string ⟨#[]⟩))
      exact bodyPost_ret (v := .tuple #[.agg zeroF, .int .i64 0, .int .i64 c]) (res_ctt Tryz.results13 _ rfl rfl rfl HKRz.out aggF) rfl ⟨by rw [HRR.out]; rfl, HBz.out⟩
  case pos =>
  subst hc0
  have hk0 : s[0].toNat < 256 := s[0].toNat_lt
  have HBY := Lib.hid (fun w => bytes_any s[0].toNat u1 u2 (s.extract a3 en) w hk0 (by omega) (by omega) HFD.out)
  have g0 : x3.cell? ⟨x1.heap.size, 0, none⟩ = some (.int .i64 (s[0].toNat : Int)) := HKF3.out.at_ 0 rfl
  have g1 : x3.cell? ⟨x1.heap.size, 1, none⟩ = some (.int .i64 u1) := HKF3.out.at_ 1 rfl
  have g2 : x3.cell? ⟨x1.heap.size, 2, none⟩ = some (.int .i64 u2) := HKF3.out.at_ 2 rfl
  have g3 : x3.cell? ⟨x1.heap.size, 3, none⟩ = some (.string (s.extract a3 en)) := HKF3.out.at_ 3 rfl
  have hex : (s.extract 0 (en + 4)) = ⟨(s.data.toList.take (en + 4)).toArray⟩ := ext_takeA s (en + 4)
  have HRF := Lib.hid (show RR = if frB (⟨(s[0].toNat : Int), u1, u2, s.extract a3 en⟩ : FrV) = s.extract 0 (en + 4) then ⟨(⟨(s[0].toNat : Int), u1, u2, s.extract a3 en⟩ : FrV), en + 4, 0⟩ else rdErr 5 by
    rw [HR6.out]; unfold rdFrame; rw [HC.out, if_neg (by decide), if_neg (by simp), hex])
  have HN3 := Lib.hid (show x1.heap.size + 1 ≤ x3.heap.size from HKF3.out.here)
  clear HR6 HC hk0 hex
  obtain ⟨FB, hFB⟩ : ∃ b, frB (⟨(s[0].toNat : Int), u1, u2, s.extract a3 en⟩ : FrV) = b := ⟨_, rfl⟩
  rw [hFB] at HRF HBY
  clear hFB
  go_wp2_with fail
  refine wp_region_T (InvB (x1.heap.size + 1) x3) kf4 (by kernel_rfl) (by kernel_rfl) (InvB.refl _ _).drew ?_
  have hew : ((en : Int) + 4) ≤ (s.size : Int) := by omega
  have hiG0 : ∀ w', InvB (x1.heap.size + 1) x3 w' → w'.cell? ⟨x1.heap.size, 0, none⟩ = some (.int .i64 (s[0].toNat : Int)) := fun w' h => (h _ _ (Nat.lt_succ_self _)).trans g0
  (first | (refine wpT_skip rfl (fun K hK => ?_); try go_simp; refine hK _ _ ?_; clear hK K) | (refine wpT_pure rfl rfl _ (fun w' hI => by unfold InvB at hI; go_simp; rfl) (fun K hK => ?_); try go_simp; refine hK _ _ ?_; clear hK K) | (refine wpT_pure rfl rfl _ (fun w' hI => by go_simp; rfl) (fun K hK => ?_); try go_simp; refine hK _ _ ?_; clear hK K) | (refine wpT_read rfl rfl rfl _ (by go_simp; rfl) (fun K hK => ?_); try go_simp; refine hK _ _ ?_; clear hK K))
  refine wpT_act rfl rfl rfl (fun K hK => ?_); go_simp
  refine (HBY.out _).mono ?_; rintro e x4 ⟨rfl, hb4⟩; try go_simp
  have HI4 := Lib.hid ((InvB.refl _ _).drew.below hb4 HN3.out)
  have HKF4 := Lib.hid (HKF3.out.draw.keep hb4); have HKR4 := Lib.hid (HKR3.out.draw.keep hb4); have HB4 := Lib.hid (HB3.out.drew.trans (hb4.mono HB3.out.drew.size))
  refine hK _ _ ⟨HI4.out, ?_⟩; clear hK K hb4
  by_cases hfb : FB = s.extract 0 (en + 4)
  · have HRR := Lib.hid (show RR = ⟨(⟨(s[0].toNat : Int), u1, u2, s.extract a3 en⟩ : FrV), en + 4, 0⟩ by rw [HRF.out, if_pos hfb])
    have hqt : (FB.toList == (s.extract 0 (en + 4)).toList) = true := by rw [hfb]; exact beq_self_eq_true _
    clear HRF hfb g0 g1 g2 g3 r0 r1 r2 r3 rf hiG0
    have hpe : (0 : Int) ≤ (en : Int) + 4 := by omega
    have hte : ((en : Int) + 4).toNat = en + 4 := by omega
    have hwe : IntKind.i64.wrap ((en : Int) + 4) = (en : Int) + 4 := IntWalk.i64_in _ (by omega)
    iterate 5 (first | (refine wpT_skip rfl (fun K hK => ?_); try go_simp; refine hK _ _ ?_; clear hK K) | (refine wpT_pure rfl rfl _ (fun w' hI => by unfold InvB at hI; go_simp; rfl) (fun K hK => ?_); try go_simp; refine hK _ _ ?_; clear hK K) | (refine wpT_pure rfl rfl _ (fun w' hI => by go_simp; rfl) (fun K hK => ?_); try go_simp; refine hK _ _ ?_; clear hK K) | (refine wpT_read rfl rfl rfl _ (by go_simp; rfl) (fun K hK => ?_); try go_simp; refine hK _ _ ?_; clear hK K))
    refine wpT_nil ?_
    clear hpe hte hwe
    have r0 : x4.cell? ⟨w.heap.size, 0, none⟩ = some (.int .i64 0) := HKR4.out.at_ 0 rfl
    have r1 : x4.cell? ⟨w.heap.size, 1, none⟩ = some (.int .i64 0) := HKR4.out.at_ 1 rfl
    have r2 : x4.cell? ⟨w.heap.size, 2, none⟩ = some (.int .i64 0) := HKR4.out.at_ 2 rfl
    have r3 : x4.cell? ⟨w.heap.size, 3, none⟩ = some (.string ⟨#[]⟩) := HKR4.out.at_ 3 rfl
    have rf := HKR4.out.free
    have g0 : x4.cell? ⟨x1.heap.size, 0, none⟩ = some (.int .i64 (s[0].toNat : Int)) := HKF4.out.at_ 0 rfl
    have g1 : x4.cell? ⟨x1.heap.size, 1, none⟩ = some (.int .i64 u1) := HKF4.out.at_ 1 rfl
    have g2 : x4.cell? ⟨x1.heap.size, 2, none⟩ = some (.int .i64 u2) := HKF4.out.at_ 2 rfl
    have g3 : x4.cell? ⟨x1.heap.size, 3, none⟩ = some (.string (s.extract a3 en)) := HKF4.out.at_ 3 rfl
    go_wp2_with fail
    have HKRz := Lib.hid (four_put HKR4.out rfl (.int .i64 (s[0].toNat : Int)) (.int .i64 u1) (.int .i64 u2) (.string (s.extract a3 en)))
    have HBz := Lib.hid (four_below HB4.out (Nat.le_refl _) (.int .i64 (s[0].toNat : Int)) (.int .i64 u1) (.int .i64 u2) (.string (s.extract a3 en)))
    exact bodyPost_ret (v := .tuple #[.agg (fcells (⟨(s[0].toNat : Int), u1, u2, s.extract a3 en⟩ : FrV)), .int .i64 ((en : Int) + 4), .int .i64 0]) (res_ctt Tryz.results13 _ rfl rfl rfl HKRz.out aggF) rfl ⟨by rw [HRR.out]; rfl, HBz.out⟩
  · have hqt : (FB.toList == (s.extract 0 (en + 4)).toList) = false := by
      rw [beq_eq_false_iff_ne]; intro h; refine hfb (ByteArray.ext (Array.ext' ?_)); rwa [ByteArray.toList_eq, ByteArray.toList_eq] at h
    have HRF2 := Lib.hid (show RR = rdErr 5 by rw [HRF.out, if_neg hfb])
    clear HRF hfb g0 g1 g2 g3 r0 r1 r2 r3 rf hiG0
    have hpe : (0 : Int) ≤ (en : Int) + 4 := by omega
    have hte : ((en : Int) + 4).toNat = en + 4 := by omega
    have hwe : IntKind.i64.wrap ((en : Int) + 4) = (en : Int) + 4 := IntWalk.i64_in _ (by omega)
    iterate 5 (first | (refine wpT_skip rfl (fun K hK => ?_); try go_simp; refine hK _ _ ?_; clear hK K) | (refine wpT_pure rfl rfl _ (fun w' hI => by unfold InvB at hI; go_simp; rfl) (fun K hK => ?_); try go_simp; refine hK _ _ ?_; clear hK K) | (refine wpT_pure rfl rfl _ (fun w' hI => by go_simp; rfl) (fun K hK => ?_); try go_simp; refine hK _ _ ?_; clear hK K) | (refine wpT_read rfl rfl rfl _ (by go_simp; rfl) (fun K hK => ?_); try go_simp; refine hK _ _ ?_; clear hK K))
    refine wpT_nil ?_
    clear hpe hte hwe
    have r0 : x4.cell? ⟨w.heap.size, 0, none⟩ = some (.int .i64 0) := HKR4.out.at_ 0 rfl
    have r1 : x4.cell? ⟨w.heap.size, 1, none⟩ = some (.int .i64 0) := HKR4.out.at_ 1 rfl
    have r2 : x4.cell? ⟨w.heap.size, 2, none⟩ = some (.int .i64 0) := HKR4.out.at_ 2 rfl
    have r3 : x4.cell? ⟨w.heap.size, 3, none⟩ = some (.string ⟨#[]⟩) := HKR4.out.at_ 3 rfl
    have rf := HKR4.out.free
    have HRR := Lib.hid (show RR = rdErr 5 by exact HRF2.out)
    go_wp2_with fail
    have HKRz := Lib.hid (four_put HKR4.out rfl (.int .i64 0) (.int .i64 0) (.int .i64 0) (.string ⟨#[]⟩))
    have HBz := Lib.hid (four_below HB4.out (Nat.le_refl _) (.int .i64 0) (.int .i64 0) (.int .i64 0) (.string ⟨#[]⟩))
    exact bodyPost_ret (v := .tuple #[.agg zeroF, .int .i64 0, .int .i64 5]) (res_ctt Tryz.results13 _ rfl rfl rfl HKRz.out aggF) rfl ⟨by rw [HRR.out]; rfl, HBz.out⟩
end Go.Proofs.YtpfkddbhpoeknaaGreatDoor

/- frame.Write, its reference, and the law's own walk through the chapter's examples. -/
namespace Go.Proofs.YtpfkddbhpoeknaaGreatDoor
open Go.RowKit
structure WrV where
  bytes : ByteArray
  err : Int
def writeF (f : FrV) : WrV := if frameE f = 0 then ⟨frB f, 0⟩ else ⟨⟨#[]⟩, frameE f⟩
theorem bytesF {fn : FuncId} (f : FrV) (h : frameE f = 0)
    (hb : ∀ (k s n : Nat) (d : ByteArray) (w : World), k < 256 → s < 9223372036854775808 → n < 9223372036854775808 → d.size < 4294967281 → Calls Tryz.prog fn #[.agg (fcells ⟨k, s, n, d⟩)] w fun e w' => e = .returned (.string (frB ⟨k, s, n, d⟩)) ∧ Below w.heap.size w w') (w : World) :
    Calls Tryz.prog fn #[.agg (fcells f)] w fun e w' => e = .returned (.string (frB f)) ∧ Below w.heap.size w w' := by
  obtain ⟨h1, h2, h3, h4, h5, h6, h7⟩ := frameE_ok h
  obtain ⟨k, s, n, d⟩ := f
  simp only at h1 h2 h3 h4 h5 h6 h7
  obtain ⟨k, rfl⟩ : ∃ m : Nat, k = m := ⟨k.toNat, by omega⟩
  obtain ⟨s, rfl⟩ : ∃ m : Nat, s = m := ⟨s.toNat, by omega⟩
  obtain ⟨n, rfl⟩ : ∃ m : Nat, n = m := ⟨n.toNat, by omega⟩
  exact hb k s n d w (by omega) (by omega) (by omega) (by omega)
theorem write_any (f : FrV) (w : World) (hg : MLen w) (hs : f.data.size < 4294967281) :
    Calls Tryz.prog 5 #[.agg (fcells f)] w fun e w' => e = .returned (.tuple #[.string (writeF f).bytes, .int .i64 (writeF f).err]) ∧ Below w.heap.size w w' := by
  have HC := Lib.hid (fun w hg => fcheck_any f w hg hs)
  have HG := Lib.hid hg; clear hg
  have HBF := Lib.hid (fun (h : frameE f = 0) => bytesF f h bytes_any)
  have HW := Lib.hid (show writeF f = if frameE f = 0 then ⟨frB f, 0⟩ else ⟨⟨#[]⟩, frameE f⟩ from rfl)
  generalize writeF f = WR at *
  generalize frB f = B at *
  generalize frameE f = c at *
  have HB0 := Lib.hid (below_box w (.cells (fcells f) FT))
  have HK0 := Lib.hid (Below.refl (w.heap.size + 1) (w.alloc (.cells (fcells f) FT)))
  go_enter Tryz.func5, Tryz.ntmps5
  go_wp2_with fail
  refine (HC.out _ (HG.out.below HB0.out)).mono ?_; rintro e w1 ⟨rfl, hb1⟩
  have HK1 := Lib.hid (below_next HK0.out (show w.heap.size + 1 ≤ (w.alloc (.cells (fcells f) FT)).heap.size by simp) hb1)
  obtain ⟨c0, c1, c2, c3⟩ := box_cells (f := f) HK1.out
  have HB1 := Lib.hid (below_in HK1.out)
  clear hb1
  by_cases hc : c = 0
  · subst hc
    have HWR := Lib.hid (show WR = ⟨B, 0⟩ by rw [HW.out, if_pos rfl])
    go_wp2_with fail
    refine (HBF.out (by first | rfl | trivial) _).mono ?_; rintro e w2 ⟨rfl, hb2⟩
    go_wp2_with fail
    go_ret2
    exact ⟨by rw [HWR.out]; rfl, HB1.out.trans (hb2.mono HB1.out.size)⟩
  · have HWR := Lib.hid (show WR = ⟨⟨#[]⟩, c⟩ by rw [HW.out, if_neg hc])
    obtain ⟨q1, q2⟩ := byte_eq hc
    clear hc
    go_wp2_with fail
    go_ret2
    exact ⟨by rw [HWR.out]; rfl, HB1.out⟩
def ex1 : HdV := ⟨⟨#[97, 46, 83]⟩, ⟨#[71, 101, 116]⟩, 0, []⟩
def ex1B : ByteArray := ⟨#[3, 97, 46, 83, 3, 71, 101, 116, 0, 0]⟩
def ex2 : FrV := ⟨3, 1, 0, ⟨#[]⟩⟩
theorem ex1_ok : headE ex1 = 0 := by decide +kernel
theorem ex1_bytes : (headL ex1).toArray = #[3, 97, 46, 83, 3, 71, 101, 116, 0, 0] := by decide +kernel
theorem ex1_head : headW ex1 = ⟨headL ex1, 0⟩ := by unfold headW; rw [if_pos ex1_ok]
theorem ex1_read : hdRead ex1B = ⟨ex1, 0⟩ := by
  have := hdRead_headL (h := ex1) ex1_ok ⟨by decide, by decide, fun m h => by cases h⟩
  rw [ex1_bytes] at this; exact this
theorem ex2_ok : frameE ex2 = 0 := by decide +kernel
theorem ex2_size : (frB ex2).size = 8 := by rw [frB_size]; decide +kernel
theorem ex2_front : (frB ex2).extract 0 4 = ⟨#[3, 1, 0, 0]⟩ := by
  have h : frL ex2 = [3, 1, 0, 0] := by decide +kernel
  unfold frB sealB
  have := cat_ext ⟨(frL ex2).toArray⟩ ⟨(le4 (crcV (⟨(frL ex2).toArray⟩ : ByteArray).data.toList)).toArray⟩
  rw [h] at this ⊢
  exact this
theorem ex2_read : readL (frB ex2).data.toList = ⟨ex2, 8, 0⟩ := by
  have := readL_frB ex2 ex2_ok []
  rw [List.append_nil, ex2_size] at this; exact this
set_option maxHeartbeats 4000000 in
set_option maxRecDepth 100000 in
theorem awake_any (w : World) (hg : MLen w) : Calls Tryz.prog 4 #[] w fun e w' => e = .returned (.bool true) ∧ Below w.heap.size w w' := by
  have HG := Lib.hid hg; clear hg
  have HH := Lib.hid (fun w hg => (head_any ex1 (.slice none 0 0) w hg (MsIn.zero w) ⟨by decide, by decide, fun m h => by cases h⟩).mono fun e w' h => (show e = .returned (.tuple #[.string ex1B, .int .i64 0]) ∧ Below w.heap.size w w' by rw [ex1_head] at h; simp only at h; rw [ex1_bytes] at h; exact h))
  have HR := Lib.hid (fun w hg => (headRead_any ex1B w hg (by decide)).mono fun e w' h => (show ∃ v, e = .returned (.tuple #[.agg #[.string ⟨#[97, 46, 83]⟩, .string ⟨#[71, 101, 116]⟩, .int .i64 0, v], .int .i64 0]) ∧ MsIn w' v [] ∧ Below w.heap.size w w' by unfold HdPost at h; rw [ex1_read] at h; exact h))
  have HW := Lib.hid (fun w hg => (write_any ex2 w hg (by decide)).mono fun e w' h => (show e = .returned (.tuple #[.string (frB ex2), .int .i64 0]) ∧ Below w.heap.size w w' by unfold writeF at h; rw [if_pos ex2_ok] at h; exact h))
  have HD := Lib.hid (fun w hg => (read_any (frB ex2) w hg (by rw [ex2_size]; decide)).mono fun e w' h => (show e = .returned (.tuple #[.agg #[.int .i64 3, .int .i64 1, .int .i64 0, .string ⟨#[]⟩], .int .i64 8, .int .i64 0]) ∧ Below w.heap.size w w' by unfold RdPost at h; rw [ex2_read] at h; exact h))
  have hz := ex2_size
  have hf := ex2_front
  generalize frB ex2 = B at *
  go_enter Tryz.func4, Tryz.ntmps4
  go_wp2_with fail
  refine (HH.out _ HG.out).mono ?_; rintro e w1 ⟨rfl, hb1⟩
  have HB1 := Lib.hid hb1; clear hb1
  go_wp2_with fail
  refine (HR.out _ (HG.out.below HB1.out)).mono ?_; rintro e w2 ⟨v, rfl, hm2, hb2⟩
  obtain ⟨sa, scap, rfl, _⟩ := hm2
  have HB2 := Lib.hid (HB1.out.trans (hb2.mono HB1.out.size)); clear hb2
  go_wp2_with fail
  have HK3 := Lib.hid (Bk.new w2 34 (hcells ex1 (.slice sa 0 scap)))
  have HB3 := Lib.hid (HB2.out.alloc HB2.out.size (.cells (hcells ex1 (.slice sa 0 scap)) 34))
  refine (HW.out _ (HG.out.below HB3.out)).mono ?_; rintro e w4 ⟨rfl, hb4⟩
  have HB4 := Lib.hid (HB3.out.trans (hb4.mono HB3.out.size)); have HK4 := Lib.hid (HK3.out.keep hb4); clear hb4
  go_wp2_with fail
  refine (HD.out _ (HG.out.below HB4.out)).mono ?_; rintro e w5 ⟨rfl, hb5⟩
  have HB5 := Lib.hid (HB4.out.trans (hb5.mono HB4.out.size)); have HK5 := Lib.hid (HK4.out.keep hb5); clear hb5
  have k1 : w5.cell? ⟨w2.heap.size, 1, none⟩ = some (.string ⟨#[71, 101, 116]⟩) := HK5.out.at_ 1 rfl
  have hbx : ex1B.toList = [3, 97, 46, 83, 3, 71, 101, 116, 0, 0] := by rw [ByteArray.toList_eq]; rfl
  have hfx : (B.extract 0 4).toList = [3, 1, 0, 0] := by rw [hf, ByteArray.toList_eq]
  have hmx : (⟨#[71, 101, 116]⟩ : ByteArray).toList = [71, 101, 116] := by rw [ByteArray.toList_eq]
  clear hf
  have k2 : (w5.alloc (.cells #[.int .i64 3, .int .i64 1, .int .i64 0, .string ⟨#[]⟩] FT)).cell? ⟨w2.heap.size, 1, none⟩ = some (.string ⟨#[71, 101, 116]⟩) := (HK5.out.more _).at_ 1 rfl
  have HB6 := Lib.hid (HB5.out.alloc HB5.out.size (.cells (fcells ex2) FT))
  go_wp2_with fail
  go_ret
  exact ⟨rfl, HB6.out⟩
end Go.Proofs.YtpfkddbhpoeknaaGreatDoor
