/- Spans of time: status.Span, decimal, and the reference's Span. -/
import Derived.Test.YtlljocgcpaoenaaDoorNames
import Derived.Test.YtlljocgcpaoenaaDoorSpanLaw
import Derived.Test.YtlljocgcpaoenaaDoorByte
import Derived.Lib.ItoaMem
namespace Go.Proofs.YtlljocgcpaoenaaDoor
open Go.RowKit

theorem below_grow (w : World) (k : Nat) (os : Array Obj) : Below w.heap.size w (Sort.grow (w.drewN k) os) :=
  ⟨rfl, rfl, rfl, by show w.heap.size ≤ (w.heap ++ os).size; simp, fun i hi => by show (w.heap ++ os)[i]? = _; rw [Array.getElem?_append_left hi]⟩
theorem itoa_any (n : Nat) (w : World) (hn : n ≤ 9223372036854775807) (ht : Lib.TabIs Tryd.prog w "internal/strconv.uint64pow10" .u64 Lib.pow10Tab) :
    Calls Tryd.prog 48 #[.int .i64 n] w fun e w' => e = .returned (.string ⟨(Lib.decDigits n).toArray⟩) ∧ Below w.heap.size w w' :=
  (Tryd.strconv_Itoa n (by omega) (by omega) w ht).mono fun e w' ⟨h1, k, os, h2⟩ => ⟨by rw [h1, Lib.itoa_nonneg], by rw [h2]; exact below_grow w k os⟩
theorem unitsV_at (i : Nat) (h : i < 4) : unitsV[i]? = some (.int .i64 (unitAt i : Nat)) := by
  have : i = 0 ∨ i = 1 ∨ i = 2 ∨ i = 3 := by omega
  rcases this with rfl | rfl | rfl | rfl <;> rfl
theorem unitAt_bd (i : Nat) : 1 ≤ unitAt i ∧ unitAt i ≤ 3600000 := by unfold unitAt; split <;> omega
theorem unitOf_le {n i : Nat} (hi : i < 4) (h : n % unitAt i = 0) : unitOf n ≤ i := by
  have : i = 0 ∨ i = 1 ∨ i = 2 ∨ i = 3 := by omega
  unfold unitOf
  rcases this with rfl | rfl | rfl | rfl
  · rw [if_pos (show n % 3600000 = 0 from h)]; omega
  · split
    · omega
    · rw [if_pos (show n % 60000 = 0 from h)]; omega
  · split
    · omega
    · split
      · omega
      · rw [if_pos (show n % 1000 = 0 from h)]; omega
  · (repeat' split) <;> omega
theorem let_ext (i : Nat) (h : i < 4) : (⟨#[72, 77, 83, 109]⟩ : ByteArray).extract i (i + 1) = ⟨#[letAt i]⟩ := by
  have : i = 0 ∨ i = 1 ∨ i = 2 ∨ i = 3 := by omega
  rcases this with rfl | rfl | rfl | rfl <;> rfl
theorem cat_list (a b : List UInt8) : ((⟨a.toArray⟩ : ByteArray) ++ ⟨b.toArray⟩ : ByteArray) = ⟨(a ++ b).toArray⟩ := ByteArray.ext (by simp [ByteArray.data_append])
theorem mk_sz (l : List UInt8) : (⟨l.toArray⟩ : ByteArray).size = l.length := by show l.toArray.size = _; simp
theorem wrap_small (q : Nat) (h : q ≤ 1099511627776) : IntKind.i64.wrap (q : Int) = q := IntWalk.i64_in _ (by omega)
theorem dec_len (n : Nat) (h : n ≤ 9223372036854775807) : (Lib.decDigits n).length ≤ 20 := nDig_le n 20 (by omega) (by omega)
set_option maxHeartbeats 1000000 in
set_option maxRecDepth 100000 in
theorem span_in (n : Nat) (w : World) (hg : Gs w) (h0 : 0 < n) (h1 : n ≤ 1099511627776) :
    Calls Tryd.prog 27 #[.int .i64 n] w fun e w' => e = .returned (.string ⟨(spanN n).toArray⟩) ∧ Below w.heap.size w w' := by
  have hn0 := (byte_eq (show (n : Int) ≠ 0 by omega)).1
  have HU := Lib.hid (fun i (hi : i < 4) => row_cell hg.units i (unitsV_at i hi))
  have HT := Lib.hid hg.tab
  have HG := Lib.hid hg; clear hg
  go_enter Tryd.func27, Tryd.ntmps27
  go_wp2
  go_loop [3] (fun x => ∃ i : Nat, i ≤ unitOf n ∧ x = .int .i64 i) (fun x => 3 - (intOf x).toNat)
  case atStart => exact ⟨0, Nat.zero_le _, rfl⟩
  case round =>
    obtain ⟨i, hi, rfl⟩ := hrel
    have h4 := unitOf_lt n
    have hi4 : i < 4 := by omega
    have hc := HU.out i hi4
    have hb := unitAt_bd i
    by_cases hd : n % unitAt i = 0
    · have he : i = unitOf n := by have := unitOf_le hi4 hd; omega
      have HS := Lib.hid (show spanN n = Lib.decDigits (n / unitAt i) ++ [letAt i] by unfold spanN; rw [if_neg (by omega), he])
      have hx := let_ext i hi4
      have HL := Lib.hid (cat_list (Lib.decDigits (n / unitAt i)) [letAt i])
      have hq : n / unitAt i ≤ 1099511627776 := Nat.le_trans (Nat.div_le_self _ _) h1
      have hlen := dec_len (n / unitAt i) (by omega)
      have hsz := mk_sz (Lib.decDigits (n / unitAt i))
      have hsz1 : (⟨#[letAt i]⟩ : ByteArray).size = 1 := rfl
      have hno : ¬ 9223372036854775807 < (Lib.decDigits (n / unitAt i)).length + 1 := by omega
      have hr : (n : Int) % (unitAt i : Nat) = 0 := by omega
      have hqe : ((n / unitAt i : Nat) : Int) = (n : Int) / (unitAt i : Nat) := by rw [Int.natCast_ediv]
      have HI := Lib.hid (fun w ht => itoa_any (n / unitAt i) w (by omega) ht)
      have htd : (n : Int).tdiv (unitAt i : Nat) = ((n / unitAt i : Nat) : Int) := by rw [Int.tdiv_eq_ediv_of_nonneg (by omega)]; omega
      have hsz2 : 2 < w.heap.size := cell_here hc
      clear hd he hi
      have hwq := wrap_small (n / unitAt i) hq
      have hi5 : (i : Int) < 4 := by omega
      have hi6 : 0 ≤ (i : Int) + 1 := by omega
      have hi7 : (i : Int) + 1 ≤ 4 := by omega
      have hi8 : (i : Int) ≤ (i : Int) + 1 := by omega
      have hU1 : ¬ unitAt i = 0 := by omega
      have hwi : IntKind.i64.wrap ((i : Int) + 1) = (i : Int) + 1 := IntWalk.i64_in _ (by omega)
      have hU0 := (byte_eq (show ((unitAt i : Nat) : Int) ≠ 0 by omega)).1
      clear hqe
      generalize n / unitAt i = q at *
      generalize unitAt i = U at *
      go_wp2_with fail
      refine wp_region_T (InvB w.heap.size w) kf1 (by kernel_rfl) (by kernel_rfl) (InvB.refl _ _).drew ?_
      iterate 5 (first | (refine wpT_skip rfl (fun K hK => ?_); try go_simp; refine hK _ _ ?_; clear hK K) | (refine wpT_pure rfl rfl _ (fun w' hI => by unfold InvB at hI; go_simp; rfl) (fun K hK => ?_); try go_simp; refine hK _ _ ?_; clear hK K) | (refine wpT_pure rfl rfl _ (fun w' hI => by go_simp; rfl) (fun K hK => ?_); try go_simp; refine hK _ _ ?_; clear hK K) | (refine wpT_read rfl rfl rfl _ (by go_simp; rfl) (fun K hK => ?_); try go_simp; refine hK _ _ ?_; clear hK K))
      refine wpT_act rfl rfl rfl (fun K hK => ?_)
      go_simp
      refine (HI.out _ (tab_below HT.out (Below.refl _ _).drew)).mono ?_; rintro e w2 ⟨rfl, hb2⟩
      try go_simp
      refine hK _ _ ⟨(InvB.refl _ _).drew.below hb2 (Nat.le_refl _), ?_⟩; clear hK K
      iterate 6 (first | (refine wpT_skip rfl (fun K hK => ?_); try go_simp; refine hK _ _ ?_; clear hK K) | (refine wpT_pure rfl rfl _ (fun w' hI => by unfold InvB at hI; go_simp; rfl) (fun K hK => ?_); try go_simp; refine hK _ _ ?_; clear hK K) | (refine wpT_pure rfl rfl _ (fun w' hI => by go_simp; rfl) (fun K hK => ?_); try go_simp; refine hK _ _ ?_; clear hK K) | (refine wpT_read rfl rfl rfl _ (by go_simp; rfl) (fun K hK => ?_); try go_simp; refine hK _ _ ?_; clear hK K))
      refine wpT_nil ?_
      go_wp2
      go_ret
      exact ⟨v_ret_str (by rw [HS.out, ← HL.out]), (Below.refl _ _).drew.trans hb2⟩
    · have hlt : i < unitOf n := by
        by_cases e : i = unitOf n
        · exact absurd (by rw [e]; exact unit_div n) hd
        · omega
      have hr : ((n : Int) % (unitAt i : Nat) == 0) = false := (byte_eq (by omega)).1
      have hr2 : ((n : Int) % (unitAt i : Nat) != 0) = true := (byte_eq (by omega)).2
      clear hd
      generalize unitAt i = U at *
      go_wp2_with fail
      go_round
      case rel => exact ⟨i + 1, hlt, by go_num⟩
      case measure => simp [intOf]; omega
theorem span_any (ms : Int) (w : World) (hg : Gs w) :
    Calls Tryd.prog 27 #[.int .i64 ms] w fun e w' => e = .returned (.string ⟨(spanL ms).toArray⟩) ∧ Below w.heap.size w w' := by
  by_cases h1 : ms < 0
  · have HR := Lib.hid (show spanL ms = [] by unfold spanL; rw [if_pos (.inl h1)])
    go_enter Tryd.func27, Tryd.ntmps27
    go_wp2_with fail
    go_ret
    exact ⟨v_ret_str (by rw [HR.out]), Below.refl _ _⟩
  by_cases h2 : 1099511627776 < ms
  · have HR := Lib.hid (show spanL ms = [] by unfold spanL; rw [if_pos (.inr h2)])
    go_enter Tryd.func27, Tryd.ntmps27
    go_wp2_with fail
    go_ret
    exact ⟨v_ret_str (by rw [HR.out]), Below.refl _ _⟩
  · obtain ⟨n, rfl⟩ : ∃ n : Nat, ms = n := ⟨ms.toNat, by omega⟩
    rw [spanL_nat n (by omega)]
    by_cases h0 : n = 0
    · subst h0
      have HR := Lib.hid (show spanN 0 = [48, 109] from rfl)
      clear h1 h2
      go_enter Tryd.func27, Tryd.ntmps27
      go_wp2_with fail
      go_ret
      exact ⟨v_ret_str (by rw [HR.out]), Below.refl _ _⟩
    · exact span_in n w hg (by omega) (by omega)
/-- the digits ahead of the last one. -/
def preD (n : Nat) : List UInt8 := if n < 10 then [] else Lib.decDigits (n / 10)
theorem dec_pre (n : Nat) : Lib.decDigits n = preD n ++ [UInt8.ofNat (48 + n % 10)] := by
  rw [Lib.decDigits]; unfold preD
  by_cases h : n < 10
  · rw [dif_pos h, if_pos h, Nat.mod_eq_of_lt h]; rfl
  · rw [dif_neg h, if_neg h]
theorem one_cons (c : UInt8) (l : List UInt8) : ((⟨#[c]⟩ : ByteArray) ++ ⟨l.toArray⟩ : ByteArray) = ⟨(c :: l).toArray⟩ := cat_list [c] l
theorem refDec_any (n : Nat) (w : World) (hn : n ≤ 1099511627776) :
    Calls Tryd.prog 49 #[.int .i64 n] w fun e w' => e = .returned (.string ⟨(Lib.decDigits n).toArray⟩) ∧ Below w.heap.size w w' := by
  have hp := dec_pre n
  obtain ⟨c0, hc0⟩ : ∃ c : UInt8, c = UInt8.ofNat (48 + n % 10) := ⟨_, rfl⟩
  have hd0 : ((48 : Int) + (n : Int) % 10) = (c0.toNat : Int) := by rw [hc0, UInt8.toNat_ofNat']; omega
  have hcv0 := fun W => conv_byte W _ _ hd0
  rw [← hc0] at hp
  have H0 := Lib.hid hp
  clear hd0 hc0 hp
  go_enter Tryd.func49, Tryd.ntmps49
  go_wp2
  go_loopw [0, 3, 4] (fun x y i wr => ∃ (N k : Nat) (L : List UInt8), x = .int .i64 N ∧ y = .string ⟨L.toArray⟩ ∧ i = .int .i64 k ∧ k ≤ 20 ∧ L.length = k + 1 ∧ N < 10 ^ (20 - k) ∧ N ≤ 1099511627776 ∧ Lib.decDigits n = preD N ++ L ∧ Below w.heap.size w wr) (fun x _ _ _ => (intOf x).toNat)
  case atStart => exact ⟨n, 0, [c0], rfl, rfl, rfl, by omega, rfl, by omega, hn, H0.out, (Below.refl _ _).alloc (Nat.le_refl _) _⟩
  case round =>
    clear hcv0 H0
    obtain ⟨N, k, L, rfl, rfl, rfl, hk, hL, hN, hN2, hx, hb⟩ := hrel
    have HX := Lib.hid hx; have HB := Lib.hid hb; have hbs := hb.size; have HN := Lib.hid hN; clear hx hb hN
    by_cases hge : 10 ≤ N
    · have hk19 : k < 19 := by
        have := HN.out
        by_cases h : k < 19
        · exact h
        · have h2 : 10 ^ (20 - k) ≤ 10 ^ 1 := Nat.pow_le_pow_right (by decide) (by omega)
          omega
      have HS := Lib.hid (show Lib.decDigits n = preD (N / 10) ++ (UInt8.ofNat (48 + N / 10 % 10) :: L) by
        rw [HX.out, show preD N = Lib.decDigits (N / 10) by unfold preD; rw [if_neg (by omega)], dec_pre (N / 10), List.append_assoc]; rfl)
      have HN3 := Lib.hid (show N / 10 < 10 ^ (20 - (k + 1)) by
        have := HN.out
        rw [Nat.div_lt_iff_lt_mul (by decide), ← Nat.pow_succ, show (20 - (k + 1)).succ = 20 - k by omega]; exact this)
      obtain ⟨c, hc⟩ : ∃ c : UInt8, c = UInt8.ofNat (48 + N / 10 % 10) := ⟨_, rfl⟩
      have hd : ((48 : Int) + (N : Int) / 10 % 10) = (c.toNat : Int) := by rw [hc, UInt8.toNat_ofNat']; omega
      rw [← hc] at HS
      have hcv := fun W => conv_byte W _ _ hd
      have hoc := one_cons c L
      have hno : ¬ 9223372036854775807 < 1 + L.length := by omega
      have hsz := mk_sz L
      have hs1 : (⟨#[c]⟩ : ByteArray).size = 1 := rfl
      clear hd hc
      go_wp2
      go_roundw
      case rel => exact ⟨N / 10, k + 1, c :: L, by go_num, rfl, by go_num, by omega, by rw [List.length_cons, hL], HN3.out, by omega, HS.out, HB.out.alloc hbs _⟩
      case measure => simp [intOf]; omega
    · have HS := Lib.hid (show Lib.decDigits n = L by rw [HX.out, show preD N = [] by unfold preD; rw [if_pos (by omega)]]; rfl)
      have hlt : N < 10 := by omega
      go_wp2
      all_goals
        go_ret
        exact ⟨v_ret_str (by rw [HS.out]), HB.out⟩
theorem unit_any (b : UInt8) (w : World) :
    Calls Tryd.prog 47 #[.int .u8 (b.toNat : Int)] w fun e w' => e = .returned (.int .i64 (unitN b : Nat)) ∧ w = w' := by
  have hb : ∀ k : UInt8, b ≠ k → (b.toNat : Int) ≠ (k.toNat : Int) := fun k h e => h (UInt8.toNat_inj.1 (by omega))
  by_cases h1 : b = 72
  · subst h1
    go_enter Tryd.func47, Tryd.ntmps47
    go_wp2_with fail
    go_ret
    exact ⟨rfl, rfl⟩
  by_cases h2 : b = 77
  · subst h2
    go_enter Tryd.func47, Tryd.ntmps47
    go_wp2_with fail
    go_ret
    exact ⟨rfl, rfl⟩
  by_cases h3 : b = 83
  · subst h3
    go_enter Tryd.func47, Tryd.ntmps47
    go_wp2_with fail
    go_ret
    exact ⟨rfl, rfl⟩
  by_cases h4 : b = 109
  · subst h4
    go_enter Tryd.func47, Tryd.ntmps47
    go_wp2_with fail
    go_ret
    exact ⟨rfl, rfl⟩
  · have q1 := (byte_eq (show (b.toNat : Int) ≠ 72 from hb 72 h1)).1
    have q2 := (byte_eq (show (b.toNat : Int) ≠ 77 from hb 77 h2)).1
    have q3 := (byte_eq (show (b.toNat : Int) ≠ 83 from hb 83 h3)).1
    have q4 := (byte_eq (show (b.toNat : Int) ≠ 109 from hb 109 h4)).1
    have HR := Lib.hid (show unitN b = 0 by unfold unitN; rw [if_neg h1, if_neg h2, if_neg h3, if_neg h4])
    clear hb h1 h2 h3 h4
    go_enter Tryd.func47, Tryd.ntmps47
    go_wp2_with fail
    go_ret
    exact ⟨v_ret_int (by rw [HR.out]; rfl), rfl⟩
end Go.Proofs.YtlljocgcpaoenaaDoor
