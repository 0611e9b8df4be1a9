/- Heads: the head of bytes, the reference's HeadRead. -/
import Derived.Test.YtpfkddbhpoeknaaGreatDoorRead2
namespace Go.Proofs.YtpfkddbhpoeknaaGreatDoor
open Go.RowKit

theorem takeN_err (s : ByteArray) {e : Int} (he : e ≠ 0) : takeN s e = ⟨0, s, e⟩ := by unfold takeN; rw [if_neg he]
theorem takeX_err (s : ByteArray) {e : Int} (he : e ≠ 0) : takeX s e = ⟨⟨#[]⟩, s, e⟩ := by unfold takeX; rw [takeN_err s he]; unfold textOf; rw [if_neg he]
theorem hdEnd_err (s0 : ByteArray) (h : HdV) (l : Nat) (ms : List (ByteArray × ByteArray)) (r : ByteArray) {e : Int} (he : e ≠ 0) : hdEnd s0 h l ⟨ms, r, e⟩ = ⟨hdZero, e⟩ := by unfold hdEnd; rw [if_pos he]
theorem ext_ext (s : ByteArray) {n k : Nat} (hn : n ≤ s.size) (_ : k ≤ (s.extract n s.size).size) : (s.extract n s.size).extract k (s.extract n s.size).size = s.extract (n + k) s.size := by
  have h1 : (s.extract n s.size).size = s.size - n := by rw [ByteArray.size_extract]; omega
  refine ByteArray.ext (Array.ext' ?_)
  rw [h1] at *
  simp only [ByteArray.data_extract, Array.toList_extract, List.extract_eq_take_drop]
  have hl : s.data.toList.length = s.size := by rw [Array.length_toList]; rfl
  rw [List.take_of_length_le (l := s.data.toList.drop n) (by rw [List.length_drop]; omega), List.drop_drop, List.take_of_length_le (by rw [List.length_drop]; omega), List.take_of_length_le (by rw [List.length_drop]; omega)]
set_option maxHeartbeats 4000000 in
set_option maxRecDepth 100000 in
theorem rheadRead_any (s0 : ByteArray) (w : World) (hs : s0.size < 4294967281) :
    Calls Tryz.prog 22 #[.string s0] w (HdPost (hdRead s0) w) := by
  have HR0 := Lib.hid (show hdRead s0 = hdEnd s0 ⟨(takeX s0 0).text, (takeX (takeX s0 0).rest (takeX s0 0).err).text, 0, []⟩ (takeN (takeX (takeX s0 0).rest (takeX s0 0).err).rest (takeX (takeX s0 0).rest (takeX s0 0).err).err).num (hdMetas (takeN (takeN (takeX (takeX s0 0).rest (takeX s0 0).err).rest (takeX (takeX s0 0).rest (takeX s0 0).err).err).rest (takeN (takeX (takeX s0 0).rest (takeX s0 0).err).rest (takeX (takeX s0 0).rest (takeX s0 0).err).err).err).num (takeN (takeN (takeX (takeX s0 0).rest (takeX s0 0).err).rest (takeX (takeX s0 0).rest (takeX s0 0).err).err).rest (takeN (takeX (takeX s0 0).rest (takeX s0 0).err).rest (takeX (takeX s0 0).rest (takeX s0 0).err).err).err).rest (takeN (takeN (takeX (takeX s0 0).rest (takeX s0 0).err).rest (takeX (takeX s0 0).rest (takeX s0 0).err).err).rest (takeN (takeX (takeX s0 0).rest (takeX s0 0).err).rest (takeX (takeX s0 0).rest (takeX s0 0).err).err).err).err) from rfl)
  have h1 := takeX_le s0 0
  have HT1 := Lib.hid (fun w => rtake_any s0 w (by omega))
  generalize hdRead s0 = RR at *
  generalize takeX s0 0 = X1 at *
  obtain ⟨svc, s1, e1⟩ := X1
  have b1 : s1.size ≤ s0.size := h1.1
  have b2 : svc.size ≤ s0.size := h1.2
  clear h1
  simp only at HR0
  have hsz1 : (w.alloc (.cells zeroC HT)).heap.size = w.heap.size + 1 := by simp
  have HKR0 := Lib.hid ((Bk.new w HT zeroC).more (.cells zeroC HT))
  have HKH0 := Lib.hid (show Bk ((w.alloc (.cells zeroC HT)).alloc (.cells zeroC HT)) (w.heap.size + 1) HT zeroC from by have h := Bk.new (w.alloc (.cells zeroC HT)) HT zeroC; rw [hsz1] at h; exact h)
  have HB0 := Lib.hid (show Below w.heap.size w ((w.alloc (.cells zeroC HT)).alloc (.cells zeroC HT)) from ((Below.refl _ _).alloc (Nat.le_refl _) _).alloc (by simp) _)
  have HNR := Lib.hid (show w.heap.size + 1 ≠ w.heap.size by omega)
  have HHB := Lib.hid (show w.heap.size ≤ w.heap.size + 1 by omega)
  clear hsz1
  go_enter Tryz.func22, Tryz.ntmps22
  go_wp2_with fail
  refine (HT1.out _).mono ?_; rintro e w1 ⟨rfl, hb1⟩
  have HKR1 := Lib.hid (HKR0.out.keep hb1); have HKH1 := Lib.hid (HKH0.out.keep hb1); have HB1 := Lib.hid (HB0.out.trans (hb1.mono HB0.out.size))
  clear hb1 HKR0 HKH0 HB0 HT1
  have r0 : w1.cell? ⟨w.heap.size, 0, none⟩ = some (.string ⟨#[]⟩) := HKR1.out.at_ 0 rfl
  have r1 : w1.cell? ⟨w.heap.size, 1, none⟩ = some (.string ⟨#[]⟩) := HKR1.out.at_ 1 rfl
  have r2 : w1.cell? ⟨w.heap.size, 2, none⟩ = some (.int .i64 0) := HKR1.out.at_ 2 rfl
  have r3 : w1.cell? ⟨w.heap.size, 3, none⟩ = some (.slice none 0 0) := HKR1.out.at_ 3 rfl
  have rf := HKR1.out.free
  by_cases he1 : e1 = 0
  case neg =>
    obtain ⟨q1, q2⟩ := byte_eq he1
    have HRR := Lib.hid (show RR = ⟨hdZero, e1⟩ by rw [HR0.out, takeX_err _ he1]; simp only; rw [takeN_err _ he1]; simp only; rw [takeN_err _ he1]; simp only; rw [hdMetas_eq, if_neg (by omega), metasF_err _ _ he1, hdEnd_err _ _ _ _ _ he1])
    clear he1
    go_wp2_with fail
    have HKRz := Lib.hid (zero_put HKR1.out rfl (.string ⟨#[]⟩) (.string ⟨#[]⟩) (.int .i64 0) (.slice none 0 0))
    have HBz := Lib.hid (four_below HB1.out (Nat.le_refl _) (.string ⟨#[]⟩) (.string ⟨#[]⟩) (.int .i64 0) (.slice none 0 0))
    refine bodyPost_ret (v := .tuple #[.agg zeroC, .int .i64 e1]) (res_ct Tryz.results22 _ rfl rfl HKRz.out aggHd) rfl ⟨.slice none 0 0, by rw [HRR.out]; rfl, ?_, HBz.out⟩
    rw [HRR.out]
    exact MsIn.zero _
  case pos =>
  subst he1
  have h2 := takeX_le s1 0
  have HT2 := Lib.hid (fun w => rtake_any s1 w (by omega))
  generalize takeX s1 0 = X2 at *
  obtain ⟨mth, s2, e2⟩ := X2
  have b3 : s2.size ≤ s1.size := h2.1
  have b4 : mth.size ≤ s1.size := h2.2
  clear h2
  simp only at HR0
  have HRT := Lib.hid (show rtRest ⟨svc, s1, 0⟩ = s1 from rfl)
  have hrt := HRT.out
  have hh0 : w1.cell? ⟨w.heap.size + 1, 0, none⟩ = some (.string ⟨#[]⟩) := HKH1.out.at_ 0 rfl
  have hhf := HKH1.out.free
  go_wp2_with fail
  have HKR1b := Lib.hid (HKR1.out.aside (a := ⟨w.heap.size + 1, 0, none⟩) (show w.heap.size ≠ w.heap.size + 1 by omega) (.string svc))
  have HKH1b := Lib.hid (show Bk (w1.setCell ⟨w.heap.size + 1, 0, none⟩ (.string svc)) (w.heap.size + 1) HT #[.string svc, .string ⟨#[]⟩, .int .i64 0, .slice none 0 0] from HKH1.out.put 0 _)
  have HB1b := Lib.hid (HB1.out.setCell (p := ⟨w.heap.size + 1, 0, none⟩) HHB.out (.string svc))
  refine (HT2.out _).mono ?_; rintro e w2 ⟨rfl, hb2⟩
  have HKR2 := Lib.hid (HKR1b.out.keep hb2); have HKH2 := Lib.hid (HKH1b.out.keep hb2); have HB2 := Lib.hid (HB1b.out.trans (hb2.mono HB1b.out.size))
  clear hb2 HKR1 HKH1 HB1 HKR1b HKH1b HB1b HT2 r0 r1 r2 r3 rf hh0 hhf hrt
  have r0 : w2.cell? ⟨w.heap.size, 0, none⟩ = some (.string ⟨#[]⟩) := HKR2.out.at_ 0 rfl
  have r1 : w2.cell? ⟨w.heap.size, 1, none⟩ = some (.string ⟨#[]⟩) := HKR2.out.at_ 1 rfl
  have r2 : w2.cell? ⟨w.heap.size, 2, none⟩ = some (.int .i64 0) := HKR2.out.at_ 2 rfl
  have r3 : w2.cell? ⟨w.heap.size, 3, none⟩ = some (.slice none 0 0) := HKR2.out.at_ 3 rfl
  have rf := HKR2.out.free
  by_cases he2 : e2 = 0
  case neg =>
    obtain ⟨q1, q2⟩ := byte_eq he2
    have HRR := Lib.hid (show RR = ⟨hdZero, e2⟩ by rw [HR0.out, takeN_err _ he2]; simp only; rw [takeN_err _ he2]; simp only; rw [hdMetas_eq, if_neg (by omega), metasF_err _ _ he2, hdEnd_err _ _ _ _ _ he2])
    clear he2
    go_wp2_with fail
    have HKRz := Lib.hid (zero_put HKR2.out rfl (.string ⟨#[]⟩) (.string ⟨#[]⟩) (.int .i64 0) (.slice none 0 0))
    have HBz := Lib.hid (four_below HB2.out (Nat.le_refl _) (.string ⟨#[]⟩) (.string ⟨#[]⟩) (.int .i64 0) (.slice none 0 0))
    refine bodyPost_ret (v := .tuple #[.agg zeroC, .int .i64 e2]) (res_ct Tryz.results22 _ rfl rfl HKRz.out aggHd) rfl ⟨.slice none 0 0, by rw [HRR.out]; rfl, ?_, HBz.out⟩
    rw [HRR.out]
    exact MsIn.zero _
  case pos =>
  subst he2
  obtain ⟨⟨late, n, c3⟩, hT3⟩ : ∃ t, TakeS s2 = t := ⟨_, rfl⟩
  have hn3 := takeS_le hT3
  have HT3 := Lib.hid (takeC _ s2 late n c3 hT3 fun w => refTake_any s2 w (by omega))
  have HX3 := Lib.hid (show takeN s2 0 = ⟨late, s2.extract n s2.size, c3⟩ by unfold takeN; rw [if_pos rfl, hT3])
  have HLT := Lib.hid (fun (h : c3 = 0) => takeS_lt (by rw [hT3, h]))
  clear hT3
  have hrt : rtRest ⟨mth, s2, 0⟩ = s2 := rfl
  have hh1 : w2.cell? ⟨w.heap.size + 1, 1, none⟩ = some (.string ⟨#[]⟩) := HKH2.out.at_ 1 rfl
  have hhf := HKH2.out.free
  go_wp2_with fail
  have HKR3 := Lib.hid (HKR2.out.aside (a := ⟨w.heap.size + 1, 1, none⟩) (show w.heap.size ≠ w.heap.size + 1 by omega) (.string mth))
  have HKH3 := Lib.hid (show Bk (w2.setCell ⟨w.heap.size + 1, 1, none⟩ (.string mth)) (w.heap.size + 1) HT #[.string svc, .string mth, .int .i64 0, .slice none 0 0] from HKH2.out.put 1 _)
  have HB3 := Lib.hid (HB2.out.setCell (p := ⟨w.heap.size + 1, 1, none⟩) HHB.out (.string mth))
  refine (HT3.out _).mono ?_; rintro e w3 ⟨rfl, hw3⟩
  have HW3 := Lib.hid hw3
  rw [hw3] at HKR3 HKH3 HB3
  subst hw3
  clear HKR2 HKH2 HB2 r0 r1 r2 r3 rf hh1 hhf hrt HT3
  generalize hw3 : w2.setCell ⟨w.heap.size + 1, 1, none⟩ (.string mth) = w3 at *
  clear hw3 HW3
  have r0 : w3.cell? ⟨w.heap.size, 0, none⟩ = some (.string ⟨#[]⟩) := HKR3.out.at_ 0 rfl
  have r1 : w3.cell? ⟨w.heap.size, 1, none⟩ = some (.string ⟨#[]⟩) := HKR3.out.at_ 1 rfl
  have r2 : w3.cell? ⟨w.heap.size, 2, none⟩ = some (.int .i64 0) := HKR3.out.at_ 2 rfl
  have r3 : w3.cell? ⟨w.heap.size, 3, none⟩ = some (.slice none 0 0) := HKR3.out.at_ 3 rfl
  have rf := HKR3.out.free
  by_cases he3 : c3 = 0
  case neg =>
    obtain ⟨q1, q2⟩ := byte_eq he3
    have HRR := Lib.hid (show RR = ⟨hdZero, c3⟩ by rw [HR0.out, HX3.out]; simp only; rw [takeN_err _ he3]; simp only; rw [hdMetas_eq, if_neg (by omega), metasF_err _ _ he3, hdEnd_err _ _ _ _ _ he3])
    clear he3
    go_wp2_with fail
    have HKRz := Lib.hid (zero_put HKR3.out rfl (.string ⟨#[]⟩) (.string ⟨#[]⟩) (.int .i64 0) (.slice none 0 0))
    have HBz := Lib.hid (four_below HB3.out (Nat.le_refl _) (.string ⟨#[]⟩) (.string ⟨#[]⟩) (.int .i64 0) (.slice none 0 0))
    refine bodyPost_ret (v := .tuple #[.agg zeroC, .int .i64 c3]) (res_ct Tryz.results22 _ rfl rfl HKRz.out aggHd) rfl ⟨.slice none 0 0, by rw [HRR.out]; rfl, ?_, HBz.out⟩
    rw [HRR.out]
    exact MsIn.zero _
  case pos =>
  subst he3
  have hlate := HLT.out rfl
  have HLATE := Lib.hid hlate
  have hes : (s2.extract n s2.size).size = s2.size - n := by rw [ByteArray.size_extract]; omega
  obtain ⟨⟨many, k4, c4⟩, hT4⟩ : ∃ t, TakeS (s2.extract n s2.size) = t := ⟨_, rfl⟩
  have hn4 := takeS_le hT4
  have HT4 := Lib.hid (takeC _ (s2.extract n s2.size) many k4 c4 hT4 fun w => refTake_any (s2.extract n s2.size) w (by omega))
  have HX4 := Lib.hid (show takeN (s2.extract n s2.size) 0 = ⟨many, (s2.extract n s2.size).extract k4 (s2.extract n s2.size).size, c4⟩ by unfold takeN; rw [if_pos rfl, hT4])
  have HEX := Lib.hid (ext_ext s2 hn3 hn4)
  have hk4 : n + k4 ≤ s2.size := by omega
  clear hT4 hlate
  go_wp2_with fail
  refine (HT4.out _).mono ?_; rintro e w4 ⟨rfl, rfl⟩
  by_cases he4 : c4 = 0
  case neg =>
    obtain ⟨q1, q2⟩ := byte_eq he4
    have HRR := Lib.hid (show RR = ⟨hdZero, c4⟩ by rw [HR0.out, HX3.out]; simp only; rw [HX4.out]; simp only; rw [hdMetas_eq, if_neg (by omega), metasF_err _ _ he4, hdEnd_err _ _ _ _ _ he4])
    clear he4
    go_wp2_with fail
    have HKRz := Lib.hid (zero_put HKR3.out rfl (.string ⟨#[]⟩) (.string ⟨#[]⟩) (.int .i64 0) (.slice none 0 0))
    have HBz := Lib.hid (four_below HB3.out (Nat.le_refl _) (.string ⟨#[]⟩) (.string ⟨#[]⟩) (.int .i64 0) (.slice none 0 0))
    refine bodyPost_ret (v := .tuple #[.agg zeroC, .int .i64 c4]) (res_ct Tryz.results22 _ rfl rfl HKRz.out aggHd) rfl ⟨.slice none 0 0, by rw [HRR.out]; rfl, ?_, HBz.out⟩
    rw [HRR.out]
    exact MsIn.zero _
  case pos =>
  subst he4
  by_cases h16 : 16 < many
  · have hd := decide_eq_true (show (16 : Int) < (many : Int) by omega)
    have HRR := Lib.hid (show RR = ⟨hdZero, 3⟩ by rw [HR0.out, HX3.out]; simp only; rw [HX4.out]; simp only; rw [hdMetas_eq, if_pos ⟨rfl, h16⟩, metasF_err _ _ (by decide), hdEnd_err _ _ _ _ _ (by decide)])
    go_wp2_with fail
    have HKRz := Lib.hid (zero_put HKR3.out rfl (.string ⟨#[]⟩) (.string ⟨#[]⟩) (.int .i64 0) (.slice none 0 0))
    have HBz := Lib.hid (four_below HB3.out (Nat.le_refl _) (.string ⟨#[]⟩) (.string ⟨#[]⟩) (.int .i64 0) (.slice none 0 0))
    refine bodyPost_ret (v := .tuple #[.agg zeroC, .int .i64 3]) (res_ct Tryz.results22 _ rfl rfl HKRz.out aggHd) rfl ⟨.slice none 0 0, by rw [HRR.out]; rfl, ?_, HBz.out⟩
    rw [HRR.out]
    exact MsIn.zero _
  have hd := decide_eq_false (show ¬ (16 : Int) < (many : Int) by omega)
  have HR1 := Lib.hid (show RR = hdEnd s0 ⟨svc, mth, 0, []⟩ late (metasF many (s2.extract (n + k4) s2.size) 0 []) by
    rw [HR0.out, HX3.out]; simp only; rw [HX4.out]; simp only; rw [hdMetas_eq, if_neg (by omega), HEX.out])
  have HZ1 := Lib.hid (show svc.size < 4294967281 by omega); have HZ2 := Lib.hid (show mth.size < 4294967281 by omega)
  have HZ4 := Lib.hid (show (s2.extract (n + k4) s2.size).size < 4294967281 by rw [ByteArray.size_extract]; omega)
  clear HR0 HX3 HX4 HEX HT4
  obtain ⟨i0, hi, hz0, hz1, hz2⟩ := info_parts infoMeta
  have HI := Lib.hid hi; have HIZ := Lib.hid hz0; have HIZ1 := Lib.hid hz1; have HIZ2 := Lib.hid hz2
  have hwm : IntKind.i64.wrap (many : Int) = many := IntWalk.i64_in _ (by omega)
  have HWM := Lib.hid hwm
  have hwn : IntKind.i64.wrap ((n : Int) + (k4 : Int)) = (n : Int) + (k4 : Int) := IntWalk.i64_in _ (by omega)
  have hnk : ((n : Int) + (k4 : Int)).toNat = n + k4 := by omega
  have hnk2 : (n : Int) + (k4 : Int) ≤ (s2.size : Int) := by omega
  have hm16 : many ≤ 16 := by omega
  clear hi hz0 hz1 hz2 h16 b1 b2 b3 b4 hs hn3 hn4 hes
  go_wp2_with fail
  clear hwm hwn hnk hnk2 hk4 r0 r1 r2 r3 rf
  go_loopw [6, 13] (fun y x wr => ∃ (k : Nat) (s : ByteArray) (acc : List (ByteArray × ByteArray)) (v : Value), x = .int .i64 k ∧ y = .string s ∧ k ≤ many ∧ acc.length = k ∧ s.size < 4294967281 ∧ (∀ m ∈ acc, m.1.size < 4294967281 ∧ m.2.size < 4294967281) ∧ Bk wr (w.heap.size + 1) HT #[.string svc, .string mth, .int .i64 0, v] ∧ Bk wr w.heap.size HT zeroC ∧ wr.ownsRow w.heap.size MT 2 v acc.length (cellsM acc) ∧ Below w.heap.size w wr ∧ metasF many (s2.extract (n + k4) s2.size) 0 [] = metasF (many - k) s 0 acc) (fun _ x _ => many - (intOf x).toNat)
  case atStart => exact ⟨0, _, [], .slice none 0 0, rfl, rfl, Nat.zero_le _, rfl, HZ4.out, fun _ h => (by cases h), HKH3.out, HKR3.out, World.ownsRow_nil _ _ _ _, HB3.out, rfl⟩
  case round =>
    obtain ⟨k, s, acc, v, rfl, rfl, hkn, hal, hss, hms, hkh, hkr, hown, hbw, hM⟩ := hrel
    have HKH := Lib.hid hkh; have HKR := Lib.hid hkr; have HO := Lib.hid hown; have HB := Lib.hid hbw; have HM := Lib.hid hM; have HMS := Lib.hid hms; have HSS := Lib.hid hss; have HALN := Lib.hid hal; clear hal
    have hv3 : wr.cell? ⟨w.heap.size + 1, 3, none⟩ = some v := hkh.at_ 3 rfl
    clear hkh hkr hown hbw hM hms hss
    by_cases hlt : k < many
    · have hd2 := decide_eq_true (show (k : Int) < (many : Int) by omega)
      have hx1 := takeX_le s 0
      have HT5 := Lib.hid (fun w => rtake_any s w (by have := HSS.out; omega))
      have HMQ := Lib.hid (show RR = hdEnd s0 ⟨svc, mth, 0, []⟩ late (metasF (many - (k + 1)) (takeX (takeX s 0).rest (takeX s 0).err).rest (takeX (takeX s 0).rest (takeX s 0).err).err (acc ++ [((takeX s 0).text, (takeX (takeX s 0).rest (takeX s 0).err).text)])) by
        rw [HR1.out, HM.out, show many - k = (many - (k + 1)) + 1 by omega, metasF, if_pos rfl])
      have HMN := Lib.hid (show metasF many (s2.extract (n + k4) s2.size) 0 [] = metasF (many - (k + 1)) (takeX (takeX s 0).rest (takeX s 0).err).rest (takeX (takeX s 0).rest (takeX s 0).err).err (acc ++ [((takeX s 0).text, (takeX (takeX s 0).rest (takeX s 0).err).text)]) by
        rw [HM.out, show many - k = (many - (k + 1)) + 1 by omega, metasF, if_pos rfl])
      have hwm := HWM.out
      go_wp2_with fail
      refine (HT5.out _).mono ?_; rintro e y1 ⟨rfl, hb1⟩
      clear hwm
      have HKR1 := Lib.hid (HKR.out.keep hb1); have HKH1 := Lib.hid (HKH.out.keep hb1); have HB1 := Lib.hid (HB.out.trans (hb1.mono HB.out.size)); have HO1 := Lib.hid (own_below HO.out hb1)
      clear hb1
      generalize hq1 : takeX s 0 = X1 at *
      obtain ⟨a1, t1, c1⟩ := X1
      have hx1a : t1.size ≤ s.size := hx1.1
      have hx1b : a1.size ≤ s.size := hx1.2
      clear hx1 hq1
      simp only at HMQ HMN
      have r0 : y1.cell? ⟨w.heap.size, 0, none⟩ = some (.string ⟨#[]⟩) := HKR1.out.at_ 0 rfl
      have r1 : y1.cell? ⟨w.heap.size, 1, none⟩ = some (.string ⟨#[]⟩) := HKR1.out.at_ 1 rfl
      have r2 : y1.cell? ⟨w.heap.size, 2, none⟩ = some (.int .i64 0) := HKR1.out.at_ 2 rfl
      have r3 : y1.cell? ⟨w.heap.size, 3, none⟩ = some (.slice none 0 0) := HKR1.out.at_ 3 rfl
      have rf := HKR1.out.free
      by_cases hc1 : c1 = 0
      case neg =>
        obtain ⟨q1, q2⟩ := byte_eq hc1
        have HRR := Lib.hid (show RR = ⟨hdZero, c1⟩ by rw [HMQ.out, takeX_err _ hc1]; simp only; rw [metasF_err _ _ hc1, hdEnd_err _ _ _ _ _ hc1])
        clear hc1
        go_wp2_with fail
        have HKRz := Lib.hid (zero_put HKR1.out rfl (.string ⟨#[]⟩) (.string ⟨#[]⟩) (.int .i64 0) (.slice none 0 0))
        have HBz := Lib.hid (four_below HB1.out (Nat.le_refl _) (.string ⟨#[]⟩) (.string ⟨#[]⟩) (.int .i64 0) (.slice none 0 0))
        refine bodyPost_ret (v := .tuple #[.agg zeroC, .int .i64 c1]) (res_ct Tryz.results22 _ rfl rfl HKRz.out aggHd) rfl ⟨.slice none 0 0, by rw [HRR.out]; rfl, ?_, HBz.out⟩
        rw [HRR.out]
        exact MsIn.zero _
      case pos =>
      subst hc1
      have hx2 := takeX_le t1 0
      have HT6 := Lib.hid (fun w => rtake_any t1 w (by have := HSS.out; omega))
      have hrt1 : rtRest ⟨a1, t1, 0⟩ = t1 := rfl
      go_wp2_with fail
      refine (HT6.out _).mono ?_; rintro e y2 ⟨rfl, hb2⟩
      have HKR2 := Lib.hid (HKR1.out.keep hb2); have HKH2 := Lib.hid (HKH1.out.keep hb2); have HB2 := Lib.hid (HB1.out.trans (hb2.mono HB1.out.size)); have HO2 := Lib.hid (own_below HO1.out hb2)
      clear hb2 r0 r1 r2 r3 rf hrt1
      generalize hq2 : takeX t1 0 = X2 at *
      obtain ⟨a2, t2, c2⟩ := X2
      have hx2a : t2.size ≤ t1.size := hx2.1
      have hx2b : a2.size ≤ t1.size := hx2.2
      clear hx2 hq2
      simp only at HMQ HMN
      have r0 : y2.cell? ⟨w.heap.size, 0, none⟩ = some (.string ⟨#[]⟩) := HKR2.out.at_ 0 rfl
      have r1 : y2.cell? ⟨w.heap.size, 1, none⟩ = some (.string ⟨#[]⟩) := HKR2.out.at_ 1 rfl
      have r2 : y2.cell? ⟨w.heap.size, 2, none⟩ = some (.int .i64 0) := HKR2.out.at_ 2 rfl
      have r3 : y2.cell? ⟨w.heap.size, 3, none⟩ = some (.slice none 0 0) := HKR2.out.at_ 3 rfl
      have rf := HKR2.out.free
      by_cases hc2 : c2 = 0
      case neg =>
        obtain ⟨q1, q2⟩ := byte_eq hc2
        have HRR := Lib.hid (show RR = ⟨hdZero, c2⟩ by rw [HMQ.out, metasF_err _ _ hc2, hdEnd_err _ _ _ _ _ hc2])
        clear hc2
        go_wp2_with fail
        have HKRz := Lib.hid (zero_put HKR2.out rfl (.string ⟨#[]⟩) (.string ⟨#[]⟩) (.int .i64 0) (.slice none 0 0))
        have HBz := Lib.hid (four_below HB2.out (Nat.le_refl _) (.string ⟨#[]⟩) (.string ⟨#[]⟩) (.int .i64 0) (.slice none 0 0))
        refine bodyPost_ret (v := .tuple #[.agg zeroC, .int .i64 c2]) (res_ct Tryz.results22 _ rfl rfl HKRz.out aggHd) rfl ⟨.slice none 0 0, by rw [HRR.out]; rfl, ?_, HBz.out⟩
        rw [HRR.out]
        exact MsIn.zero _
      case pos =>
      subst hc2
      clear r0 r1 r2 r3 rf HMQ
      have hrt2 : rtRest ⟨a2, t2, 0⟩ = t2 := rfl
      have hv3' : y2.cell? ⟨w.heap.size + 1, 3, none⟩ = some v := HKH2.out.at_ 3 rfl
      have hf' := HKH2.out.free
      have HS2 := Lib.hid (show t2.size < 4294967281 by have := HSS.out; omega)
      have HT1s := Lib.hid (show a1.size < 4294967281 by have := HSS.out; omega)
      have HT2s := Lib.hid (show a2.size < 4294967281 by have := HSS.out; omega)
      have HOn := Lib.hid (own_below HO2.out ((Below.refl y2.heap.size y2).alloc (Nat.le_refl _) (.cells #[.string a1, .string a2] MT)))
      have HKHn := Lib.hid (HKH2.out.more (.cells #[.string a1, .string a2] MT)); have HKRn := Lib.hid (HKR2.out.more (.cells #[.string a1, .string a2] MT))
      have HBn := Lib.hid (HB2.out.alloc HB2.out.size (.cells #[.string a1, .string a2] MT))
      have HSn := Lib.hid HB2.out.size
      clear hx1a hx1b hx2a hx2b
      go_wp2_with (at_builtin; refine wpList_append_own _ rfl _ _ 32 rfl w.heap.size MT i0 (.agg #[.string ⟨#[]⟩, .string ⟨#[]⟩]) 2 32 Tryz.underlying32 HI.out HIZ.out HIZ1.out HIZ2.out rfl (by decide) v acc.length (cellsM acc) rfl HOn.out ⟨y2.heap.size, 0, none⟩ 1 1 [.string a1, .string a2] rfl rfl (two_new _ _ _) (by intro u hu; simp at hu; rcases hu with rfl | rfl <;> rfl) (by have := HALN.out; unfold maxLen; omega) (by have := HALN.out; omega) (by have := HSn.out; simp; omega) ?_; intro v' w' hown' hgrow _; obtain ⟨ao, cp, hvv⟩ : ∃ ao cp, v' = .slice ao (acc.length + 1) cp := (by rcases hown'.2 with ⟨h, h0⟩ | ⟨g, cap, cur, h, _⟩ <;> first | omega | exact ⟨_, _, h⟩); subst hvv; have HO3 := Lib.hid hown'; have HNR2 := Lib.hid (own_ne HOn.out HKRn.out (by decide)); have HNH2 := Lib.hid (own_ne HOn.out HKHn.out (by decide)); have HKH3' := Lib.hid (Bk.apart HKHn.out hgrow HNH2.out); have HKR3' := Lib.hid (Bk.apart HKRn.out hgrow HNR2.out); have HB3' := Lib.hid (HBn.out.grown hgrow HBn.out.size (fun g hg => (HOn.out.lt g hg).1)); clear hown' hgrow hv3'; have hv3' : w'.cell? ⟨w.heap.size + 1, 3, none⟩ = some v := HKH3'.out.at_ 3 rfl; have hf'' := HKH3'.out.free)
      have HR4 := Lib.hid (HKR3'.out.aside (a := ⟨w.heap.size + 1, 3, none⟩) (Ne.symm HNR.out) (.slice ao (acc.length + 1) cp))
      have HH4 := Lib.hid (show Bk (w'.setCell ⟨w.heap.size + 1, 3, none⟩ (.slice ao (acc.length + 1) cp)) (w.heap.size + 1) HT #[.string svc, .string mth, .int .i64 0, (.slice ao (acc.length + 1) cp)] from HKH3'.out.put 3 _)
      have HO4 := Lib.hid (own_set HO3.out (own_ne HO3.out HKH3'.out (by decide)) 3 (.slice ao (acc.length + 1) cp))
      have HB4 := Lib.hid (HB3'.out.setCell (p := ⟨w.heap.size + 1, 3, none⟩) HHB.out (.slice ao (acc.length + 1) cp))
      have HK1 := Lib.hid (show k + 1 ≤ many by omega)
      have HAL2 := Lib.hid (show (acc ++ [(a1, a2)]).length = k + 1 by rw [List.length_append, HALN.out]; rfl)
      have HMS2 := Lib.hid (show ∀ m ∈ acc ++ [(a1, a2)], m.1.size < 4294967281 ∧ m.2.size < 4294967281 from fun m hm => by
        rcases List.mem_append.1 hm with h | h
        · exact HMS.out m h
        · simp at h; subst h; exact ⟨HT1s.out, HT2s.out⟩)
      have HO5 := Lib.hid (show (w'.setCell ⟨w.heap.size + 1, 3, none⟩ (.slice ao (acc.length + 1) cp)).ownsRow w.heap.size MT 2 (.slice ao (acc.length + 1) cp) (acc ++ [(a1, a2)]).length (cellsM (acc ++ [(a1, a2)])) by rw [cellsM_snoc, List.length_append]; exact HO4.out)
      go_roundw
      case rel => exact ⟨k + 1, t2, acc ++ [(a1, a2)], (.slice ao (acc.length + 1) cp), by go_num, rfl, HK1.out, HAL2.out, HS2.out, HMS2.out, HH4.out, HR4.out, HO5.out, HB4.out, HMN.out⟩
      case measure => simp [intOf]; omega
    · have hd2 := decide_eq_false (show ¬ (k : Int) < (many : Int) by omega)
      have hwm := HWM.out
      have HEQ := Lib.hid (show RR = hdEnd s0 ⟨svc, mth, 0, []⟩ late ⟨acc, s, 0⟩ by rw [HR1.out, HM.out, show many - k = 0 by omega]; rfl)
      have hlate := HLATE.out
      have HRE := Lib.hid HEQ.out
      have r0 : wr.cell? ⟨w.heap.size, 0, none⟩ = some (.string ⟨#[]⟩) := HKR.out.at_ 0 rfl
      have r1 : wr.cell? ⟨w.heap.size, 1, none⟩ = some (.string ⟨#[]⟩) := HKR.out.at_ 1 rfl
      have r2 : wr.cell? ⟨w.heap.size, 2, none⟩ = some (.int .i64 0) := HKR.out.at_ 2 rfl
      have r3 : wr.cell? ⟨w.heap.size, 3, none⟩ = some (.slice none 0 0) := HKR.out.at_ 3 rfl
      have rf := HKR.out.free
      by_cases hs0 : s.size = 0
      · obtain ⟨x1, x2⟩ := isE_true hs0
        by_cases hl : 1099511627776 < late
        · have hdl := decide_eq_true (show (1099511627776 : Int) < (late : Int) by omega)
          have HRR := Lib.hid (show RR = ⟨hdZero, 6⟩ by rw [HRE.out]; unfold hdEnd; rw [if_neg (by simp), if_neg (by simpa using hs0), if_pos hl])
          clear hs0
          go_wp2_with fail
          have HKRz := Lib.hid (zero_put HKR.out rfl (.string ⟨#[]⟩) (.string ⟨#[]⟩) (.int .i64 0) (.slice none 0 0))
          have HBz := Lib.hid (four_below HB.out (Nat.le_refl _) (.string ⟨#[]⟩) (.string ⟨#[]⟩) (.int .i64 0) (.slice none 0 0))
          refine bodyPost_ret (v := .tuple #[.agg zeroC, .int .i64 6]) (res_ct Tryz.results22 _ rfl rfl HKRz.out aggHd) rfl ⟨.slice none 0 0, by rw [HRR.out]; rfl, ?_, HBz.out⟩
          rw [HRR.out]
          exact MsIn.zero _
        · have hdl := decide_eq_false (show ¬ (1099511627776 : Int) < (late : Int) by omega)
          have hwl : IntKind.i64.wrap (late : Int) = late := IntWalk.i64_in _ (by omega)
          have HRF := Lib.hid (show RR = if headE ⟨svc, mth, late, acc⟩ ≠ 0 then ⟨hdZero, headE ⟨svc, mth, late, acc⟩⟩ else if headL ⟨svc, mth, late, acc⟩ ≠ s0.data.toList then ⟨hdZero, 5⟩ else ⟨⟨svc, mth, late, acc⟩, 0⟩ by
            rw [HRE.out]; unfold hdEnd; rw [if_neg (by simp), if_neg (by simpa using hs0), if_neg hl])
          have h0 : wr.cell? ⟨w.heap.size + 1, 0, none⟩ = some (.string svc) := HKH.out.at_ 0 rfl
          have h1 : wr.cell? ⟨w.heap.size + 1, 1, none⟩ = some (.string mth) := HKH.out.at_ 1 rfl
          have h2 : wr.cell? ⟨w.heap.size + 1, 2, none⟩ = some (.int .i64 0) := HKH.out.at_ 2 rfl
          have hf := HKH.out.free
          have HNO := Lib.hid (own_ne HO.out HKH.out (by decide)); have HNO2 := Lib.hid (own_ne HO.out HKR.out (by decide))
          have HKH5 := Lib.hid (show Bk (wr.setCell ⟨w.heap.size + 1, 2, none⟩ (.int .i64 late)) (w.heap.size + 1) HT #[.string svc, .string mth, .int .i64 late, v] from HKH.out.put 2 _)
          have HKR5 := Lib.hid (HKR.out.aside (a := ⟨w.heap.size + 1, 2, none⟩) (Ne.symm HNR.out) (.int .i64 late))
          have HO5 := Lib.hid (own_set HO.out HNO.out 2 (.int .i64 late))
          have HB5 := Lib.hid (HB.out.setCell (p := ⟨w.heap.size + 1, 2, none⟩) HHB.out (.int .i64 late))
          have HHC := Lib.hid (rhead_any ⟨svc, mth, late, acc⟩ v (wr.setCell ⟨w.heap.size + 1, 2, none⟩ (.int .i64 late)) (MsIn.own HO5.out) ⟨HZ1.out, HZ2.out, HMS.out⟩)
          clear hs0 hl
          by_cases hE0 : headE ⟨svc, mth, late, acc⟩ = 0
          · have HH2 := Lib.hid (show Calls Tryz.prog 47 #[.agg #[.string svc, .string mth, .int .i64 late, v]] (wr.setCell ⟨w.heap.size + 1, 2, none⟩ (.int .i64 late)) fun e w' => e = .returned (.tuple #[.string ⟨(headL ⟨svc, mth, late, acc⟩).toArray⟩, .int .i64 0]) ∧ Below (wr.setCell ⟨w.heap.size + 1, 2, none⟩ (.int .i64 late)).heap.size (wr.setCell ⟨w.heap.size + 1, 2, none⟩ (.int .i64 late)) w' by have := HHC.out; rw [headW_good hE0] at this; exact this)
            by_cases hq : headL ⟨svc, mth, late, acc⟩ = s0.data.toList
            · have HRR := Lib.hid (show RR = ⟨⟨svc, mth, late, acc⟩, 0⟩ by rw [HRF.out, if_neg (by simp [hE0]), if_neg (by simp [hq])])
              have hqb : (headL ⟨svc, mth, late, acc⟩ == s0.toList) = true := by rw [ByteArray.toList_eq, hq]; simp
              clear hq hE0
              generalize headL ⟨svc, mth, late, acc⟩ = LL at *
              go_wp2_with fail
              refine (HH2.out).mono ?_; rintro e w6 ⟨rfl, hb6⟩
              have HKR6 := Lib.hid (HKR5.out.keep hb6); have HKH6 := Lib.hid (HKH5.out.keep hb6); have HB6 := Lib.hid (HB5.out.trans (hb6.mono HB5.out.size)); have HO6 := Lib.hid (own_below HO5.out hb6)
              clear hb6 r0 r1 r2 r3 rf h0 h1 h2 hf hv3
              have r0 : w6.cell? ⟨w.heap.size, 0, none⟩ = some (.string ⟨#[]⟩) := HKR6.out.at_ 0 rfl
              have r1 : w6.cell? ⟨w.heap.size, 1, none⟩ = some (.string ⟨#[]⟩) := HKR6.out.at_ 1 rfl
              have r2 : w6.cell? ⟨w.heap.size, 2, none⟩ = some (.int .i64 0) := HKR6.out.at_ 2 rfl
              have r3 : w6.cell? ⟨w.heap.size, 3, none⟩ = some (.slice none 0 0) := HKR6.out.at_ 3 rfl
              have rf := HKR6.out.free
              have h0 : w6.cell? ⟨w.heap.size + 1, 0, none⟩ = some (.string svc) := HKH6.out.at_ 0 rfl
              have h1 : w6.cell? ⟨w.heap.size + 1, 1, none⟩ = some (.string mth) := HKH6.out.at_ 1 rfl
              have h2 : w6.cell? ⟨w.heap.size + 1, 2, none⟩ = some (.int .i64 late) := HKH6.out.at_ 2 rfl
              have h3 : w6.cell? ⟨w.heap.size + 1, 3, none⟩ = some v := HKH6.out.at_ 3 rfl
              obtain ⟨ao, cp, rfl⟩ : ∃ ao cp, v = .slice ao acc.length cp := by
                rcases HO6.out.2 with ⟨h, h0⟩ | ⟨g, cap, cur, h, _⟩
                · exact ⟨none, 0, by rw [h, h0]⟩
                · exact ⟨_, _, h⟩
              go_wp2_with fail
              have HKRz := Lib.hid (zero_put HKR6.out rfl (.string svc) (.string mth) (.int .i64 late) (.slice ao acc.length cp))
              have HBz := Lib.hid (four_below HB6.out (Nat.le_refl _) (.string svc) (.string mth) (.int .i64 late) (.slice ao acc.length cp))
              have HOz := Lib.hid (own_four HO6.out HNO2.out (.string svc) (.string mth) (.int .i64 late) (.slice ao acc.length cp))
              refine bodyPost_ret (v := .tuple #[.agg #[.string svc, .string mth, .int .i64 late, .slice ao acc.length cp], .int .i64 0]) (res_ct Tryz.results22 _ rfl rfl HKRz.out aggHd) rfl ⟨.slice ao acc.length cp, by rw [HRR.out], ?_, HBz.out⟩
              rw [HRR.out]
              exact MsIn.own HOz.out
            · have hqb : (headL ⟨svc, mth, late, acc⟩ == s0.toList) = false := by rw [ByteArray.toList_eq]; simpa using hq
              have HRR := Lib.hid (show RR = ⟨hdZero, 5⟩ by rw [HRF.out, if_neg (by simp [hE0]), if_pos hq])
              clear hq hE0
              generalize headL ⟨svc, mth, late, acc⟩ = LL at *
              go_wp2_with fail
              refine (HH2.out).mono ?_; rintro e w6 ⟨rfl, hb6⟩
              have HKR6 := Lib.hid (HKR5.out.keep hb6); have HB6 := Lib.hid (HB5.out.trans (hb6.mono HB5.out.size))
              clear hb6 r0 r1 r2 r3 rf h0 h1 h2 hf hv3
              have r0 : w6.cell? ⟨w.heap.size, 0, none⟩ = some (.string ⟨#[]⟩) := HKR6.out.at_ 0 rfl
              have r1 : w6.cell? ⟨w.heap.size, 1, none⟩ = some (.string ⟨#[]⟩) := HKR6.out.at_ 1 rfl
              have r2 : w6.cell? ⟨w.heap.size, 2, none⟩ = some (.int .i64 0) := HKR6.out.at_ 2 rfl
              have r3 : w6.cell? ⟨w.heap.size, 3, none⟩ = some (.slice none 0 0) := HKR6.out.at_ 3 rfl
              have rf := HKR6.out.free
              go_wp2_with fail
              have HKRz := Lib.hid (zero_put HKR6.out rfl (.string ⟨#[]⟩) (.string ⟨#[]⟩) (.int .i64 0) (.slice none 0 0))
              have HBz := Lib.hid (four_below HB6.out (Nat.le_refl _) (.string ⟨#[]⟩) (.string ⟨#[]⟩) (.int .i64 0) (.slice none 0 0))
              refine bodyPost_ret (v := .tuple #[.agg zeroC, .int .i64 5]) (res_ct Tryz.results22 _ rfl rfl HKRz.out aggHd) rfl ⟨.slice none 0 0, by rw [HRR.out]; rfl, ?_, HBz.out⟩
              rw [HRR.out]
              exact MsIn.zero _
          · have HH2 := Lib.hid (show Calls Tryz.prog 47 #[.agg #[.string svc, .string mth, .int .i64 late, v]] (wr.setCell ⟨w.heap.size + 1, 2, none⟩ (.int .i64 late)) fun e w' => e = .returned (.tuple #[.string ⟨#[]⟩, .int .i64 (headE ⟨svc, mth, late, acc⟩)]) ∧ Below (wr.setCell ⟨w.heap.size + 1, 2, none⟩ (.int .i64 late)).heap.size (wr.setCell ⟨w.heap.size + 1, 2, none⟩ (.int .i64 late)) w' by have := HHC.out; rw [headW_bad hE0] at this; exact this)
            obtain ⟨u1, u2⟩ := byte_eq hE0
            have HRR0 := Lib.hid (show RR = ⟨hdZero, headE ⟨svc, mth, late, acc⟩⟩ by rw [HRF.out, if_pos hE0])
            generalize headE ⟨svc, mth, late, acc⟩ = EE at *
            have HRR := Lib.hid (show RR = ⟨hdZero, EE⟩ by exact HRR0.out)
            clear hE0
            go_wp2_with fail
            refine (HH2.out).mono ?_; rintro e w6 ⟨rfl, hb6⟩
            have HKR6 := Lib.hid (HKR5.out.keep hb6); have HB6 := Lib.hid (HB5.out.trans (hb6.mono HB5.out.size))
            clear hb6 r0 r1 r2 r3 rf h0 h1 h2 hf hv3
            have r0 : w6.cell? ⟨w.heap.size, 0, none⟩ = some (.string ⟨#[]⟩) := HKR6.out.at_ 0 rfl
            have r1 : w6.cell? ⟨w.heap.size, 1, none⟩ = some (.string ⟨#[]⟩) := HKR6.out.at_ 1 rfl
            have r2 : w6.cell? ⟨w.heap.size, 2, none⟩ = some (.int .i64 0) := HKR6.out.at_ 2 rfl
            have r3 : w6.cell? ⟨w.heap.size, 3, none⟩ = some (.slice none 0 0) := HKR6.out.at_ 3 rfl
            have rf := HKR6.out.free
            go_wp2_with fail
            have HKRz := Lib.hid (zero_put HKR6.out rfl (.string ⟨#[]⟩) (.string ⟨#[]⟩) (.int .i64 0) (.slice none 0 0))
            have HBz := Lib.hid (four_below HB6.out (Nat.le_refl _) (.string ⟨#[]⟩) (.string ⟨#[]⟩) (.int .i64 0) (.slice none 0 0))
            refine bodyPost_ret (v := .tuple #[.agg zeroC, .int .i64 EE]) (res_ct Tryz.results22 _ rfl rfl HKRz.out aggHd) rfl ⟨.slice none 0 0, by rw [HRR.out]; rfl, ?_, HBz.out⟩
            rw [HRR.out]
            exact MsIn.zero _
      · obtain ⟨x1, x2⟩ := isE_false hs0
        have HRR := Lib.hid (show RR = ⟨hdZero, 18⟩ by rw [HRE.out]; unfold hdEnd; rw [if_neg (by simp), if_pos hs0])
        clear hs0
        go_wp2_with fail
        have HKRz := Lib.hid (zero_put HKR.out rfl (.string ⟨#[]⟩) (.string ⟨#[]⟩) (.int .i64 0) (.slice none 0 0))
        have HBz := Lib.hid (four_below HB.out (Nat.le_refl _) (.string ⟨#[]⟩) (.string ⟨#[]⟩) (.int .i64 0) (.slice none 0 0))
        refine bodyPost_ret (v := .tuple #[.agg zeroC, .int .i64 18]) (res_ct Tryz.results22 _ rfl rfl HKRz.out aggHd) rfl ⟨.slice none 0 0, by rw [HRR.out]; rfl, ?_, HBz.out⟩
        rw [HRR.out]
        exact MsIn.zero _
end Go.Proofs.YtpfkddbhpoeknaaGreatDoor
