/- Texts of this claim merged into one: Head0, Head1, Head2. -/
import Derived.Test.YtmdkfbmpenohiaaDoorTaker
import Derived.Test.YtmdkfbmpenohiaaDoorRegion
import Derived.IntWalk
import Derived.Deep.QuietTactic
import Derived.BigQuiet
/- Heads: keys and sized texts, the program's and the reference's. -/
namespace Go.Proofs.YtmdkfbmpenohiaaDoor
open Go.RowKit

set_option maxHeartbeats 2000000 in
set_option maxRecDepth 100000 in
theorem key_any (s : ByteArray) (w : World) (hs : s.size ≤ 4611686018427387900) :
    Calls Tryd.prog 76 #[.string s] w fun e w' => e = .returned (.bool (keyOk s.data.toList)) ∧ w = w' := by
  have hlen : s.data.toList.length = s.size := by rw [Array.length_toList]; rfl
  by_cases hl : 1 ≤ s.size ∧ s.size ≤ 40
  · have HLN := Lib.hid hlen; have HOK := Lib.hid hl; clear hlen
    obtain ⟨h1, h40⟩ := hl
    go_enter Tryd.func76, Tryd.ntmps76
    go_wp2_with fail
    go_loop [14] (fun x => ∃ k : Nat, k ≤ s.size ∧ x = .int .i64 k ∧ ∀ j (h : j < s.data.toList.length), j < k → keyC s.data.toList[j] = true) (fun x => s.size - (intOf x).toNat)
    case atStart => exact ⟨0, Nat.zero_le _, rfl, fun _ _ h => absurd h (Nat.not_lt_zero _)⟩
    case round =>
      obtain ⟨k, hk, rfl, hall⟩ := hrel
      have HA := Lib.hid hall; clear hall
      by_cases hlt : k < s.size
      · have HG := Lib.hid (fun (h : keyC s[k] = false) => keyOk_at (l := s.data.toList) (k := k) (by rw [HLN.out]; exact hlt) (show keyC s.data.toList[k] = false from h))
        have HNX := Lib.hid (fun (h : keyC s[k] = true) => show ∀ j (h : j < s.data.toList.length), j < k + 1 → keyC s.data.toList[j] = true from fun j hj hlt => by
          by_cases e : j = k
          · subst e; exact h
          · exact HA.out j hj (by omega))
        rcases keyC_facts s[k] with ⟨hc, hz1, hz2⟩ | ⟨hc, hz1, hz2⟩ | ⟨hc, hz1⟩ | ⟨hc, hz1, hz2, hz3⟩
        · have HN := Lib.hid (HNX.out hc); clear hc
          go_wp2_with fail
          go_round
          case rel => exact ⟨k + 1, hlt, by go_num, HN.out⟩
          case measure => simp [intOf]; omega
        · have HN := Lib.hid (HNX.out hc); clear hc
          go_wp2_with fail
          go_round
          case rel => exact ⟨k + 1, hlt, by go_num, HN.out⟩
          case measure => simp [intOf]; omega
        · have HN := Lib.hid (HNX.out hc)
          have hz3 : ((s[k].toNat : Int) != 45) = false := by simp; omega
          have hz4 : s[k].toNat < 48 := by omega
          have hz5 : s[k].toNat < 97 := by omega
          clear hc hz1
          go_wp2_with fail
          go_round
          case rel => exact ⟨k + 1, hlt, by go_num, HN.out⟩
          case measure => simp [intOf]; omega
        · have HR := Lib.hid (HG.out hc)
          have hz4 := (byte_eq (show (s[k].toNat : Int) ≠ 45 by omega)).2
          clear hc hz3
          rcases hz1 with hz1 | hz1
          all_goals
            rcases hz2 with hz2 | hz2
            all_goals
              try (exfalso; omega)
              try (
                go_wp2_with fail
                go_ret
                exact ⟨u_ret_bool HR.out.symm, rfl⟩)
      · have HR := Lib.hid (keyOk_ok (l := s.data.toList) (by rw [HLN.out]; exact HOK.out) (fun j hj => HA.out j hj (by have := HLN.out; omega)))
        go_wp2_with fail
        go_ret
        exact ⟨u_ret_bool HR.out.symm, rfl⟩
  · have HR := Lib.hid (keyOk_len (l := s.data.toList) (by rw [hlen]; exact hl))
    clear hlen
    go_enter Tryd.func76, Tryd.ntmps76
    go_wp2_with fail
    all_goals
      first
        | (go_ret; exact ⟨u_ret_bool HR.out.symm, rfl⟩)
        | (exfalso; omega)
theorem sized_any (s : ByteArray) (w : World) (hs : s.size ≤ 4611686018427387900) :
    Calls Tryd.prog 70 #[.string s] w fun e w' => e = .returned (.string ⟨(sized s).toArray⟩) ∧ Below w.heap.size w w' := by
  have hw : IntKind.u64.wrap (s.size : Int) = s.size := by rw [IntKind.wrap_u64]; omega
  have HP := Lib.hid (fun w => put_any s.size w (by omega))
  have hpl := putL_len s.size
  have hsz : (⟨(putL s.size).toArray⟩ : ByteArray).size = (putL s.size).length := by show (putL s.size).toArray.size = _; simp
  have hno : ¬ 9223372036854775807 < (putL s.size).length + s.size := by omega
  have HE := Lib.hid (show ((⟨(putL s.size).toArray⟩ : ByteArray) ++ s : ByteArray) = ⟨(sized s).toArray⟩ from ByteArray.ext (Array.ext' (by simp [ByteArray.data_append, sized])))
  go_enter Tryd.func70, Tryd.ntmps70
  go_wp2_with fail
  refine (HP.out _).mono ?_; rintro e w1 ⟨rfl, hb⟩
  go_wp2_with fail
  go_ret
  exact ⟨v_ret_str HE.out, hb⟩
end Go.Proofs.YtmdkfbmpenohiaaDoor

/- Heads: the first error of a head, the program's and the reference's. -/
namespace Go.Proofs.YtmdkfbmpenohiaaDoor
open Go.RowKit

/-- a slice of metadata reads as ms. -/
def MsIn (w : World) (v : Value) (ms : List (ByteArray × ByteArray)) : Prop :=
  ∃ (a : Option Addr) (cap : Nat), v = .slice a ms.length cap ∧ (ms ≠ [] → ∃ g o, a = some ⟨g, o, none⟩ ∧ g < w.heap.size ∧ ∀ i (h : i < ms.length), w.cell? ⟨g, o + i * 2, none⟩ = some (.string ms[i].1) ∧ w.cell? ⟨g, o + i * 2 + 1, none⟩ = some (.string ms[i].2))
theorem MsIn.below {w w' : World} {v : Value} {ms : List (ByteArray × ByteArray)} (h : MsIn w v ms) (hb : Below w.heap.size w w') : MsIn w' v ms := by
  obtain ⟨a, cap, hv, hc⟩ := h
  refine ⟨a, cap, hv, fun hne => ?_⟩
  obtain ⟨g, o, ha, hg, hcells⟩ := hc hne
  exact ⟨g, o, ha, Nat.lt_of_lt_of_le hg hb.size, fun i hi => ⟨(hb.cell (p := ⟨g, o + i * 2, none⟩) hg).trans (hcells i hi).1, (hb.cell (p := ⟨g, o + i * 2 + 1, none⟩) hg).trans (hcells i hi).2⟩⟩
theorem below_drewN {B : Nat} {a w : World} (h : Below B a w) (n : Nat) : Below B a (w.drewN n) := ⟨h.os, h.tape, h.output, h.size, h.block⟩
def HdSz (h : HdV) : Prop := h.svc.size < 4294967281 ∧ h.mth.size < 4294967281 ∧ ∀ m ∈ h.metas, m.1.size < 4294967281 ∧ m.2.size < 4294967281
abbrev HT : TypeId := 32
abbrev MT : TypeId := 98
abbrev hcells (h : HdV) (v : Value) : Array Value := #[.string h.svc, .string h.mth, .int .i64 h.late, v]
theorem err_call {f : FuncId} {s : ByteArray} {b : Bool} {P : Bool} {w : World} (h : P = b) (hc : Calls Tryd.prog f #[.string s] w fun e w' => e = .returned (.bool P) ∧ Below w.heap.size w w') :
    Calls Tryd.prog f #[.string s] w fun e w' => e = .returned (.bool b) ∧ Below w.heap.size w w' := by subst h; exact hc
theorem prevK_at {ms : List (ByteArray × ByteArray)} {k : Nat} (h : k - 1 < ms.length) : prevK ms k = ms[k - 1].1 := by unfold prevK; rw [List.getD_eq_getElem?_getD, List.getElem?_eq_getElem h]; rfl
set_option maxHeartbeats 4000000 in
set_option maxRecDepth 100000 in
theorem headed_some (svc mth : ByteArray) (late : Int) (ms : List (ByteArray × ByteArray)) (g o cap : Nat) (w : World) (hg : MLen w) (hgl : g < w.heap.size) (hcs : ∀ i (h : i < ms.length), w.cell? ⟨g, o + i * 2, none⟩ = some (.string ms[i].1) ∧ w.cell? ⟨g, o + i * 2 + 1, none⟩ = some (.string ms[i].2)) (hz : HdSz ⟨svc, mth, late, ms⟩) :
    Calls Tryd.prog 68 #[.agg #[.string svc, .string mth, .int .i64 late, .slice (some ⟨g, o, none⟩) ms.length cap]] w fun e w' => e = .returned (.int .i64 (headE ⟨svc, mth, late, ms⟩)) ∧ Below w.heap.size w w' := by
  obtain ⟨z1, z2, z3⟩ := hz
  have hE : headE ⟨svc, mth, late, ms⟩ = if fullOk svc.data.toList = false ∨ partOk mth.data.toList = false then 8 else if late < 0 ∨ 1099511627776 < late then 6 else if 16 < ms.length then 3 else metaE 0 ⟨#[]⟩ ms := rfl
  have HE := Lib.hid hE; clear hE
  have HB0 := Lib.hid (show Below w.heap.size w (w.alloc (.cells (hcells ⟨svc, mth, late, ms⟩ (.slice (some ⟨g, o, none⟩) ms.length cap)) HT)) from (Below.refl _ _).alloc (Nat.le_refl _) _)
  have HF := Lib.hid (fun w hg => isFull_any svc w hg z1)
  have HP := Lib.hid (fun w => isPart_any mth w (by have : mth.size < 4294967281 := z2; omega))
  have HK0 := Lib.hid (Bk.new w HT (hcells ⟨svc, mth, late, ms⟩ (.slice (some ⟨g, o, none⟩) ms.length cap)))
  have HG0 := Lib.hid (hg.below HB0.out); clear hg
  have HM := Lib.hid hcs; clear hcs
  have HZ3 := Lib.hid z3; clear z1 z2 z3
  generalize headE ⟨svc, mth, late, ms⟩ = R at *
  cases hf : fullOk svc.data.toList with
  | false =>
    have HFC := Lib.hid (fun w hg => err_call hf (HF.out w hg))
    have HR := Lib.hid (show R = 8 by rw [HE.out, if_pos (.inl hf)])
    clear hf
    go_enter Tryd.func68, Tryd.ntmps68
    go_wp2_with fail
    refine (HFC.out _ HG0.out).mono ?_; rintro e w1 ⟨rfl, hb1⟩
    go_wp2_with fail
    go_ret
    exact ⟨v_ret_int (by rw [HR.out]), HB0.out.trans (hb1.mono HB0.out.size)⟩
  | true =>
  have HFC := Lib.hid (fun w hg => err_call hf (HF.out w hg))
  cases hp : partOk mth.data.toList with
  | false =>
    have HPC := Lib.hid (fun w => err_call hp (HP.out w))
    have HR := Lib.hid (show R = 8 by rw [HE.out, if_pos (.inr hp)])
    clear hf hp
    go_enter Tryd.func68, Tryd.ntmps68
    go_wp2_with fail
    refine (HFC.out _ HG0.out).mono ?_; rintro e w1 ⟨rfl, hb1⟩
    have HK1 := Lib.hid (HK0.out.keep hb1)
    have c1 : w1.cell? ⟨w.heap.size, 1, none⟩ = some (.string mth) := HK1.out.at_ 1 rfl
    have HB1 := Lib.hid (HB0.out.trans (hb1.mono HB0.out.size)); clear hb1
    go_wp2_with fail
    refine (HPC.out _).mono ?_; rintro e w2 ⟨rfl, hb2⟩
    go_wp2_with fail
    go_ret
    exact ⟨v_ret_int (by rw [HR.out]), HB1.out.trans (hb2.mono HB1.out.size)⟩
  | true =>
  have HPC := Lib.hid (fun w => err_call hp (HP.out w))
  have HE2 := Lib.hid (show R = if late < 0 ∨ 1099511627776 < late then 6 else if 16 < ms.length then 3 else metaE 0 ⟨#[]⟩ ms by rw [HE.out, if_neg (by simp [hf, hp])])
  clear hf hp
  go_enter Tryd.func68, Tryd.ntmps68
  go_wp2_with fail
  refine (HFC.out _ HG0.out).mono ?_; rintro e w1 ⟨rfl, hb1⟩
  have HK1 := Lib.hid (HK0.out.keep hb1)
  have c1 : w1.cell? ⟨w.heap.size, 1, none⟩ = some (.string mth) := HK1.out.at_ 1 rfl
  have HB1 := Lib.hid (HB0.out.trans (hb1.mono HB0.out.size)); clear hb1
  go_wp2_with fail
  refine (HPC.out _).mono ?_; rintro e w2 ⟨rfl, hb2⟩
  have HK2 := Lib.hid (HK1.out.keep hb2)
  have HB2 := Lib.hid (HB1.out.trans (hb2.mono HB1.out.size)); clear hb2 c1
  have c2 : w2.cell? ⟨w.heap.size, 2, none⟩ = some (.int .i64 late) := HK2.out.at_ 2 rfl
  have c3 : w2.cell? ⟨w.heap.size, 3, none⟩ = some (.slice (some ⟨g, o, none⟩) ms.length cap) := HK2.out.at_ 3 rfl
  by_cases hl1 : late < 0
  · have HR := Lib.hid (show R = 6 by rw [HE2.out, if_pos (.inl hl1)])
    go_wp2_with fail
    go_ret
    exact ⟨v_ret_int (by rw [HR.out]), HB2.out⟩
  by_cases hl2 : 1099511627776 < late
  · have HR := Lib.hid (show R = 6 by rw [HE2.out, if_pos (.inr hl2)])
    go_wp2_with fail
    go_ret
    exact ⟨v_ret_int (by rw [HR.out]), HB2.out⟩
  by_cases hl3 : 16 < ms.length
  · have HR := Lib.hid (show R = 3 by rw [HE2.out, if_neg (by omega), if_pos hl3])
    go_wp2_with fail
    go_ret
    exact ⟨v_ret_int (by rw [HR.out]), HB2.out⟩
  have HE3 := Lib.hid (show R = metaE 0 (prevK ms 0) (ms.drop 0) by
    rw [HE2.out, if_neg (by omega), if_neg hl3, List.drop_zero]
    cases ms with
    | nil => rfl
    | cons m r => obtain ⟨k, v⟩ := m; rfl)
  go_wp2_with fail
  go_loopw [33] (fun x wr => ∃ k : Nat, k ≤ ms.length ∧ x = .int .i64 k ∧ Below (w.heap.size + 1) w2 wr ∧ R = metaE k (prevK ms k) (ms.drop k)) (fun x _ => ms.length - (intOf x).toNat)
  case atStart => exact ⟨0, Nat.zero_le _, rfl, Below.refl _ _, HE3.out⟩
  case round =>
    obtain ⟨k, hk, rfl, hb, hr⟩ := hrel
    have HX := Lib.hid hr; have HB := Lib.hid hb; clear hr hb
    by_cases hlt : k < ms.length
    · have hbw : Below w.heap.size w wr := HB2.out.trans (HB.out.mono (Nat.le_succ _))
      have HBW := Lib.hid hbw
      have HAL := Lib.hid ((Below.refl wr.heap.size wr).alloc (Nat.le_refl _) (.cells #[.string ms[k].1, .string ms[k].2] MT))
      have hck := HM.out k hlt
      have hc4 : wr.cell? ⟨g, o + k * 2, none⟩ = some (.string ms[k].1) := (hbw.cell (p := ⟨g, o + k * 2, none⟩) hgl).trans hck.1
      have hc5 : wr.cell? ⟨g, o + k * 2 + 1, none⟩ = some (.string ms[k].2) := (hbw.cell (p := ⟨g, o + k * 2 + 1, none⟩) hgl).trans hck.2
      have hsz1 : w.heap.size + 1 ≤ wr.heap.size := Nat.le_trans HK2.out.here HB.out.size
      have HST := Lib.hid (metaE_step hlt (prevK ms k))
      obtain ⟨y1, y2⟩ := HZ3.out ms[k] (List.getElem_mem hlt)
      have HKY := Lib.hid (fun w => key_any ms[k].1 w (by omega))
      have HVL := Lib.hid (fun w => utfValid_any ms[k].2 w (by omega))
      have HPV := Lib.hid (fun (h : 0 < k) => show wr.cell? ⟨g, o + (k - 1) * 2, none⟩ = some (.string (prevK ms k)) from by
        have e : prevK ms k = (ms[k - 1]'(by omega)).1 := prevK_at (by omega)
        rw [e]
        exact (hbw.cell (p := ⟨g, o + (k - 1) * 2, none⟩) hgl).trans (HM.out (k - 1) (by omega)).1)
      clear hbw hck y1 y2
      generalize hky : ms[k].1 = ky at *
      generalize hvl : ms[k].2 = vl at *
      generalize prevK ms k = pv at *
      clear hky hvl
      have hcr3 : wr.cell? ⟨w.heap.size, 3, none⟩ = some (.slice (some ⟨g, o, none⟩) ms.length cap) := (HB.out.cell (p := ⟨w.heap.size, 3, none⟩) (Nat.lt_succ_self _)).trans c3
      cases hko : keyOk ky.data.toList with
      | false =>
        have HR := Lib.hid (show R = 8 by rw [HX.out, HST.out, if_pos hko])
        have HKC := Lib.hid (fun w => bool_eq hko (HKY.out w))
        clear hko
        go_wp2_with fail
        refine (HKC.out _).mono ?_; rintro e w3 ⟨rfl, rfl⟩
        go_wp2_with fail
        go_ret
        exact ⟨v_ret_int (by rw [HR.out]), HBW.out.trans (HAL.out.mono HBW.out.size)⟩
      | true =>
      have HKC := Lib.hid (fun w => bool_eq hko (HKY.out w))
      by_cases hv200 : 200 < vl.size
      · have HR := Lib.hid (show R = 3 by rw [HX.out, HST.out, if_neg (by rw [hko]; simp), if_pos hv200])
        clear hko
        go_wp2_with fail
        refine (HKC.out _).mono ?_; rintro e w3 ⟨rfl, rfl⟩
        go_wp2_with fail
        go_ret
        exact ⟨v_ret_int (by rw [HR.out]), HBW.out.trans (HAL.out.mono HBW.out.size)⟩
      cases hvo : validS vl with
      | false =>
        have HR := Lib.hid (show R = 7 by rw [HX.out, HST.out, if_neg (by rw [hko]; simp), if_neg hv200, if_pos hvo])
        have HVC := Lib.hid (fun w => err_call hvo (HVL.out w))
        clear hko hvo
        go_wp2_with fail
        refine (HKC.out _).mono ?_; rintro e w3 ⟨rfl, rfl⟩
        go_wp2_with fail
        refine (HVC.out _).mono ?_; rintro e w4 ⟨rfl, hb4⟩
        go_wp2_with fail
        go_ret
        exact ⟨v_ret_int (by rw [HR.out]), (HBW.out.trans (HAL.out.mono HBW.out.size)).trans (hb4.mono (by have := HBW.out.size; simp; omega))⟩
      | true =>
      have HVC := Lib.hid (fun w => err_call hvo (HVL.out w))
      have HST2 := Lib.hid (show R = if 0 < k ∧ Op.bytesLess pv.toList ky.toList = false then 11 else metaE (k + 1) (prevK ms (k + 1)) (ms.drop (k + 1)) by rw [HX.out, HST.out, if_neg (by rw [hko]; simp), if_neg hv200, if_neg (by rw [hvo]; simp)])
      clear hko hvo
      by_cases hk0 : k = 0
      · subst hk0
        have hc4' : wr.cell? ⟨g, o, none⟩ = some (.string ky) := by simpa using hc4
        have hc5' : wr.cell? ⟨g, o + 1, none⟩ = some (.string vl) := by simpa using hc5
        clear hc4 hc5
        have HS := Lib.hid (show R = metaE (0 + 1) (prevK ms (0 + 1)) (ms.drop (0 + 1)) by rw [HST2.out, if_neg (by omega)])
        go_wp2_with fail
        refine (HKC.out _).mono ?_; rintro e w3 ⟨rfl, rfl⟩
        go_wp2_with fail
        refine (HVC.out _).mono ?_; rintro e w4 ⟨rfl, hb4⟩
        have HB4 := Lib.hid ((HB.out.trans (HAL.out.mono hsz1)).trans (hb4.mono (by simp; omega)))
        clear hb4
        go_wp2_with fail
        go_quiet (fail)
        go_wp2_with fail
        go_roundw
        case rel => exact ⟨0 + 1, hlt, by go_num, below_drewN HB4.out _, HS.out⟩
        case measure => simp [intOf]; omega
      · have hkp : 0 < k := by omega
        have HPC := Lib.hid (HPV.out hkp)
        have hk1 : (0 : Int) < (k : Int) := by omega
        have hk2 : decide ((k : Int) > 0) = true := decide_eq_true hk1
        have HLN := Lib.hid (less_not pv.toList ky.toList)
        clear hk0
        cases hls : Op.bytesLess pv.toList ky.toList with
        | false =>
          have HR := Lib.hid (show R = 11 by rw [HST2.out, if_pos ⟨hkp, hls⟩])
          have hle : (Op.bytesLess ky.toList pv.toList || ky.toList == pv.toList) = true := by rw [HLN.out, hls]; rfl
          clear hls
          go_wp2_with fail
          refine (HKC.out _).mono ?_; rintro e w3 ⟨rfl, rfl⟩
          go_wp2_with fail
          refine (HVC.out _).mono ?_; rintro e w4 ⟨rfl, hb4⟩
          have HB4B := Lib.hid ((hb4.mono (show w.heap.size ≤ _ by have := HBW.out.size; simp; omega)))
          have HB4 := Lib.hid ((HB.out.trans (HAL.out.mono hsz1)).trans (hb4.mono (by simp; omega)))
          have hd1 : w4.cell? ⟨wr.heap.size, 0, none⟩ = some (.string ky) := (hb4.cell (p := ⟨wr.heap.size, 0, none⟩) (by simp)).trans (by rw [World.cell?_alloc_mark]; rfl)
          have hd2 : w4.cell? ⟨w.heap.size, 3, none⟩ = some (.slice (some ⟨g, o, none⟩) ms.length cap) := (HB4.out.cell (p := ⟨w.heap.size, 3, none⟩) (Nat.lt_succ_self _)).trans c3
          have hd3 : w4.cell? ⟨g, o + (k - 1) * 2, none⟩ = some (.string pv) := by
            refine ((hb4.cell (p := ⟨g, o + (k - 1) * 2, none⟩) (by simp; omega)).trans ?_).trans HPC.out
            exact HAL.out.cell (p := ⟨g, o + (k - 1) * 2, none⟩) (by show g < _; omega)
          clear hb4 hc4 hc5 hcr3
          have hw2 : 0 ≤ (k : Int) - 1 := by omega
          have hw3 : (1 : Int) ≤ (k : Int) := by omega
          have hw4 : (k : Int) - 1 < (ms.length : Int) := by omega
          have hw5 : ((k : Int) - 1).toNat = k - 1 := by omega
          have hw1 : IntKind.i64.wrap ((k : Int) - 1) = (k : Int) - 1 := IntWalk.i64_in _ (by omega)
          go_wp2_with fail
          go_quiet (fail)
          clear hw1 hw2 hw3 hw4 hw5
          go_wp2_with fail
          go_ret
          exact ⟨v_ret_int (by rw [HR.out]), (HBW.out.trans (HAL.out.mono HBW.out.size)).trans (below_drewN HB4B.out _)⟩
        | true =>
          have HS := Lib.hid (show R = metaE (k + 1) (prevK ms (k + 1)) (ms.drop (k + 1)) by rw [HST2.out, if_neg (by rw [hls]; simp)])
          have hle : (Op.bytesLess ky.toList pv.toList || ky.toList == pv.toList) = false := by rw [HLN.out, hls]; rfl
          clear hls
          go_wp2_with fail
          refine (HKC.out _).mono ?_; rintro e w3 ⟨rfl, rfl⟩
          go_wp2_with fail
          refine (HVC.out _).mono ?_; rintro e w4 ⟨rfl, hb4⟩
          have HB4B := Lib.hid ((hb4.mono (show w.heap.size ≤ _ by have := HBW.out.size; simp; omega)))
          have HB4 := Lib.hid ((HB.out.trans (HAL.out.mono hsz1)).trans (hb4.mono (by simp; omega)))
          have hd1 : w4.cell? ⟨wr.heap.size, 0, none⟩ = some (.string ky) := (hb4.cell (p := ⟨wr.heap.size, 0, none⟩) (by simp)).trans (by rw [World.cell?_alloc_mark]; rfl)
          have hd2 : w4.cell? ⟨w.heap.size, 3, none⟩ = some (.slice (some ⟨g, o, none⟩) ms.length cap) := (HB4.out.cell (p := ⟨w.heap.size, 3, none⟩) (Nat.lt_succ_self _)).trans c3
          have hd3 : w4.cell? ⟨g, o + (k - 1) * 2, none⟩ = some (.string pv) := by
            refine ((hb4.cell (p := ⟨g, o + (k - 1) * 2, none⟩) (by simp; omega)).trans ?_).trans HPC.out
            exact HAL.out.cell (p := ⟨g, o + (k - 1) * 2, none⟩) (by show g < _; omega)
          clear hb4 hc4 hc5 hcr3
          have hw2 : 0 ≤ (k : Int) - 1 := by omega
          have hw3 : (1 : Int) ≤ (k : Int) := by omega
          have hw4 : (k : Int) - 1 < (ms.length : Int) := by omega
          have hw5 : ((k : Int) - 1).toNat = k - 1 := by omega
          have hw1 : IntKind.i64.wrap ((k : Int) - 1) = (k : Int) - 1 := IntWalk.i64_in _ (by omega)
          go_wp2_with fail
          go_quiet (fail)
          clear hw1 hw2 hw3 hw4 hw5
          go_wp2_with fail
          go_roundw
          case rel => exact ⟨k + 1, hlt, by go_num, below_drewN HB4.out _, HS.out⟩
          case measure => simp [intOf]; omega
    · have HR := Lib.hid (show R = 0 by rw [HX.out, List.drop_eq_nil_of_le (by omega)]; rfl)
      go_wp2_with fail
      go_ret
      exact ⟨v_ret_int (by rw [HR.out]), HB2.out.trans (HB.out.mono (Nat.le_succ _))⟩
set_option maxHeartbeats 4000000 in
set_option maxRecDepth 100000 in
theorem headed_nil (svc mth : ByteArray) (late : Int) (a : Option Addr) (cap : Nat) (w : World) (hg : MLen w) (hz : HdSz ⟨svc, mth, late, []⟩) :
    Calls Tryd.prog 68 #[.agg #[.string svc, .string mth, .int .i64 late, .slice a 0 cap]] w fun e w' => e = .returned (.int .i64 (headE ⟨svc, mth, late, []⟩)) ∧ Below w.heap.size w w' := by
  obtain ⟨z1, z2, z3⟩ := hz
  have hE : headE ⟨svc, mth, late, []⟩ = if fullOk svc.data.toList = false ∨ partOk mth.data.toList = false then 8 else if late < 0 ∨ 1099511627776 < late then 6 else if 16 < ([] : List (ByteArray × ByteArray)).length then 3 else metaE 0 ⟨#[]⟩ [] := rfl
  have HE := Lib.hid hE; clear hE
  have HB0 := Lib.hid (show Below w.heap.size w (w.alloc (.cells (hcells ⟨svc, mth, late, []⟩ (.slice a 0 cap)) HT)) from (Below.refl _ _).alloc (Nat.le_refl _) _)
  have HF := Lib.hid (fun w hg => isFull_any svc w hg z1)
  have HP := Lib.hid (fun w => isPart_any mth w (by have : mth.size < 4294967281 := z2; omega))
  have HK0 := Lib.hid (Bk.new w HT (hcells ⟨svc, mth, late, []⟩ (.slice a 0 cap)))
  have HG0 := Lib.hid (hg.below HB0.out); clear hg
  clear z1 z2 z3
  generalize headE ⟨svc, mth, late, []⟩ = R at *
  cases hf : fullOk svc.data.toList with
  | false =>
    have HFC := Lib.hid (fun w hg => err_call hf (HF.out w hg))
    have HR := Lib.hid (show R = 8 by rw [HE.out, if_pos (.inl hf)])
    clear hf
    go_enter Tryd.func68, Tryd.ntmps68
    go_wp2_with fail
    refine (HFC.out _ HG0.out).mono ?_; rintro e w1 ⟨rfl, hb1⟩
    go_wp2_with fail
    go_ret
    exact ⟨v_ret_int (by rw [HR.out]), HB0.out.trans (hb1.mono HB0.out.size)⟩
  | true =>
  have HFC := Lib.hid (fun w hg => err_call hf (HF.out w hg))
  cases hp : partOk mth.data.toList with
  | false =>
    have HPC := Lib.hid (fun w => err_call hp (HP.out w))
    have HR := Lib.hid (show R = 8 by rw [HE.out, if_pos (.inr hp)])
    clear hf hp
    go_enter Tryd.func68, Tryd.ntmps68
    go_wp2_with fail
    refine (HFC.out _ HG0.out).mono ?_; rintro e w1 ⟨rfl, hb1⟩
    have HK1 := Lib.hid (HK0.out.keep hb1)
    have c1 : w1.cell? ⟨w.heap.size, 1, none⟩ = some (.string mth) := HK1.out.at_ 1 rfl
    have HB1 := Lib.hid (HB0.out.trans (hb1.mono HB0.out.size)); clear hb1
    go_wp2_with fail
    refine (HPC.out _).mono ?_; rintro e w2 ⟨rfl, hb2⟩
    go_wp2_with fail
    go_ret
    exact ⟨v_ret_int (by rw [HR.out]), HB1.out.trans (hb2.mono HB1.out.size)⟩
  | true =>
  have HPC := Lib.hid (fun w => err_call hp (HP.out w))
  have HE2 := Lib.hid (show R = if late < 0 ∨ 1099511627776 < late then 6 else if 16 < ([] : List (ByteArray × ByteArray)).length then 3 else metaE 0 ⟨#[]⟩ [] by rw [HE.out, if_neg (by simp [hf, hp])])
  clear hf hp
  go_enter Tryd.func68, Tryd.ntmps68
  go_wp2_with fail
  refine (HFC.out _ HG0.out).mono ?_; rintro e w1 ⟨rfl, hb1⟩
  have HK1 := Lib.hid (HK0.out.keep hb1)
  have c1 : w1.cell? ⟨w.heap.size, 1, none⟩ = some (.string mth) := HK1.out.at_ 1 rfl
  have HB1 := Lib.hid (HB0.out.trans (hb1.mono HB0.out.size)); clear hb1
  go_wp2_with fail
  refine (HPC.out _).mono ?_; rintro e w2 ⟨rfl, hb2⟩
  have HK2 := Lib.hid (HK1.out.keep hb2)
  have HB2 := Lib.hid (HB1.out.trans (hb2.mono HB1.out.size)); clear hb2 c1
  have c2 : w2.cell? ⟨w.heap.size, 2, none⟩ = some (.int .i64 late) := HK2.out.at_ 2 rfl
  have c3 : w2.cell? ⟨w.heap.size, 3, none⟩ = some (.slice a 0 cap) := HK2.out.at_ 3 rfl
  by_cases hl1 : late < 0
  · have HR := Lib.hid (show R = 6 by rw [HE2.out, if_pos (.inl hl1)])
    go_wp2_with fail
    go_ret
    exact ⟨v_ret_int (by rw [HR.out]), HB2.out⟩
  by_cases hl2 : 1099511627776 < late
  · have HR := Lib.hid (show R = 6 by rw [HE2.out, if_pos (.inr hl2)])
    go_wp2_with fail
    go_ret
    exact ⟨v_ret_int (by rw [HR.out]), HB2.out⟩
  have HR := Lib.hid (show R = 0 by rw [HE2.out, if_neg (by omega), if_neg (by simp)]; rfl)
  go_wp2_with fail
  refine wp_loop_rounds 1 ?_
  rw [rounds_succ]
  go_wp2_with fail
  go_ret
  exact ⟨v_ret_int (by rw [HR.out]), HB2.out⟩
theorem headed_any (h : HdV) (v : Value) (w : World) (hg : MLen w) (hm : MsIn w v h.metas) (hz : HdSz h) :
    Calls Tryd.prog 68 #[.agg (hcells h v)] w fun e w' => e = .returned (.int .i64 (headE h)) ∧ Below w.heap.size w w' := by
  obtain ⟨svc, mth, late, ms⟩ := h
  obtain ⟨a, cap, rfl, hcs⟩ := hm
  cases ms with
  | nil => exact headed_nil svc mth late a cap w hg hz
  | cons m r =>
    obtain ⟨g, o, rfl, hgl, hc⟩ := hcs (by simp)
    exact headed_some svc mth late (m :: r) g o cap w hg hgl hc hz
end Go.Proofs.YtmdkfbmpenohiaaDoor

/- Heads: the first error of a head, the reference's. -/
namespace Go.Proofs.YtmdkfbmpenohiaaDoor
open Go.RowKit

end Go.Proofs.YtmdkfbmpenohiaaDoor
