/- Spans of time: status.ParseSpan. -/
import Derived.Test.YtlljocgcpaoenaaDoorSpan2
import Derived.Lib.ConvBytes
namespace Go.Proofs.YtlljocgcpaoenaaDoor
open Go.RowKit

theorem below_bytes (w : World) (e : TypeId) (s : ByteArray) : Below w.heap.size w (Lib.bytesWorld w e s) := by
  refine ⟨rfl, rfl, rfl, ?_, fun k hk => Lib.bytesWorld_at_old w e s k hk⟩
  unfold Lib.bytesWorld World.freeze
  simp
theorem idx_let (b : UInt8) : (unitN b = 0 ∧ Lib.indexByte [72, 77, 83, 109] b = -1) ∨ ∃ i, i < 4 ∧ b = letAt i ∧ unitN b = unitAt i ∧ Lib.indexByte [72, 77, 83, 109] b = (i : Int) := by
  by_cases h1 : b = 72
  · subst h1; exact .inr ⟨0, by omega, rfl, rfl, rfl⟩
  by_cases h2 : b = 77
  · subst h2; exact .inr ⟨1, by omega, rfl, rfl, rfl⟩
  by_cases h3 : b = 83
  · subst h3; exact .inr ⟨2, by omega, rfl, rfl, rfl⟩
  by_cases h4 : b = 109
  · subst h4; exact .inr ⟨3, by omega, rfl, rfl, rfl⟩
  · refine .inl ⟨by unfold unitN; rw [if_neg h1, if_neg h2, if_neg h3, if_neg h4], ?_⟩
    have g : ∀ k, b ≠ k → (k == b) = false := fun k h => by rw [beq_eq_false_iff_ne]; exact fun e => h e.symm
    simp [Lib.indexByte, g 72 h1, g 77 h2, g 83 h3, g 109 h4]
theorem byte_back (b : UInt8) : ((b.toNat : Int).toNat.toUInt8) = b := by
  show UInt8.ofNat _ = b
  simp
theorem idx_any (b : UInt8) (x : Int) (w : World) (h : Lib.indexByte [72, 77, 83, 109] b = x) :
    Calls Tryd.prog 44 #[.string ⟨#[72, 77, 83, 109]⟩, .int .u8 (b.toNat : Int)] w fun e w' => e = .returned (.int .i64 x) ∧ w = w' :=
  (Tryd.strings_IndexByte ⟨#[72, 77, 83, 109]⟩ (b.toNat : Int) w).mono fun e w' ⟨h1, h2⟩ => ⟨by rw [h1, byte_back]; exact v_ret_int h, h2.symm⟩
theorem atoi_any (s : ByteArray) (V : Nat) (w : World) (hmax : s.size ≤ 9223372036854775806) (h0 : s.data.toList ≠ []) (hd : (s.data.toList.all isDig) = true) (hV : valN s.data.toList = V) (hlt : V < 9223372036854775808) :
    Calls Tryd.prog 46 #[.string s] w fun e w' => e = .returned (.tuple #[.int .i64 V, .nilIface]) ∧ Below w.heap.size w w' := by
  have ha := atoi_val s.data.toList h0 hd
  rw [hV, if_pos hlt] at ha
  refine (Tryd.strconv_Atoi_ok s hmax V ha w).mono fun e w' ⟨h1, h2⟩ => ⟨h1, ?_⟩
  rcases h2 with rfl | ⟨t, rfl⟩
  · exact Below.refl _ _
  · exact below_bytes w _ t
theorem atoi_big (s : ByteArray) (w : World) (hlim : s.size ≤ 281474976710656) (h0 : s.data.toList ≠ []) (hd : (s.data.toList.all isDig) = true) (hV : 9223372036854775808 ≤ valN s.data.toList) (he : IsErr w 5) :
    Calls Tryd.prog 46 #[.string s] w fun e w' => (∃ x t N, e = .returned (.tuple #[.int .i64 x, .iface t (.pointer (some ⟨N, 0, none⟩))])) ∧ Below w.heap.size w w' := by
  have ha := atoi_val s.data.toList h0 hd
  rw [if_neg (by omega)] at ha
  obtain ⟨ev, h1, h2⟩ := he
  exact (Tryd.strconv_Atoi_range s hlim ha ev w h1 h2).mono fun e w' ⟨N, h3, _, _, h4⟩ => ⟨⟨_, _, N, h3⟩, h4⟩
theorem parseSp_at (s : ByteArray) (h : 0 < s.size) : parseSp s.data.toList = parseDB (s.extract 0 (s.size - 1)).data.toList (s[s.size - 1]'(by omega)) s.data.toList := by
  have hl : s.data.toList.length = s.size := by rw [Array.length_toList]; rfl
  unfold parseSp
  rw [if_neg (by intro e; rw [e] at hl; simp at hl; omega), hl, ext_take]
  congr 1
  rw [List.getD_eq_getElem?_getD, List.getElem?_eq_getElem (by omega)]
  rfl
theorem decOk_parts {l : List UInt8} (h : decOk l = true) : l ≠ [] ∧ (l.all isDig) = true := by
  unfold decOk at h
  simp only [Bool.and_eq_true] at h
  exact ⟨by intro e; rw [e] at h; simp at h, h.2⟩
theorem dec_ok (s : ByteArray) (b : Bool) (w : World) (hs : s.size ≤ 9223372036854775806) (h : decOk s.data.toList = b) :
    Calls Tryd.prog 45 #[.string s] w fun e w' => e = .returned (.bool b) ∧ w = w' := by subst h; exact decimal_any s w hs
set_option maxHeartbeats 2000000 in
set_option maxRecDepth 100000 in
theorem pspan_any (s : ByteArray) (w : World) (hg : Gs w) (hs : s.size ≤ 281474976710656) :
    Calls Tryd.prog 25 #[.string s] w fun e w' => e = .returned (.tuple #[.int .i64 ((parseSp s.data.toList).1 : Nat), .int .i64 (parseSp s.data.toList).2]) ∧ Below w.heap.size w w' := by
  have HG := Lib.hid hg; clear hg
  by_cases h0 : s.size = 0
  · obtain ⟨e1, e2⟩ := isE_true h0
    have HR := Lib.hid (show parseSp s.data.toList = (0, 2) by rw [← ByteArray.toList_eq, e2]; rfl)
    clear h0
    go_enter Tryd.func25, Tryd.ntmps25
    go_wp2_with fail
    go_ret2
    exact ⟨v_ret2 (by rw [HR.out]; rfl) (by rw [HR.out]), Below.refl _ _⟩
  · have hpos : 0 < s.size := by omega
    obtain ⟨e1, e2⟩ := isE_false h0
    have hP := parseSp_at s hpos
    unfold parseDB at hP
    have hdsz : (s.extract 0 (s.size - 1)).size = s.size - 1 := by rw [ByteArray.size_extract]; omega
    obtain ⟨d, hd⟩ : ∃ d, d = s.extract 0 (s.size - 1) := ⟨_, rfl⟩
    rw [← hd] at hP hdsz
    have hdx := hd.symm
    have HD0 := Lib.hid hd
    clear h0 hd
    rcases idx_let s[s.size - 1] with ⟨hu, hi⟩ | ⟨i, hi4, hbl, hu, hi⟩
    · have HR := Lib.hid (show parseSp s.data.toList = (0, 2) by rw [hP, if_pos (.inl hu)])
      have HI := Lib.hid (fun w => idx_any _ _ w hi)
      clear hP hu hi
      go_enter Tryd.func25, Tryd.ntmps25
      go_wp2_with fail
      refine (HI.out _).mono ?_; rintro e w1 ⟨rfl, rfl⟩
      go_wp2_with fail
      go_ret2
      exact ⟨v_ret2 (by rw [HR.out]; rfl) (by rw [HR.out]), Below.refl _ _⟩
    · have HI := Lib.hid (fun w => idx_any _ _ w hi)
      rw [hu] at hP
      have hb := unitAt_bd i
      have hU0 : ¬ unitAt i = 0 := by omega
      cases hok : decOk d.data.toList with
      | false =>
        have HR := Lib.hid (show parseSp s.data.toList = (0, 2) by rw [hP, if_pos (.inr hok)])
        have HDC := Lib.hid (fun w => dec_ok d false w (by omega) hok)
        clear hP hu hi hbl hok
        go_enter Tryd.func25, Tryd.ntmps25
        go_wp2_with fail
        refine (HI.out _).mono ?_; rintro e w1 ⟨rfl, rfl⟩
        go_wp2_with fail
        refine (HDC.out _).mono ?_; rintro e w2 ⟨rfl, rfl⟩
        go_wp2_with fail
        go_ret2
        exact ⟨v_ret2 (by rw [HR.out]; rfl) (by rw [HR.out]), Below.refl _ _⟩
      | true =>
        have HDC := Lib.hid (fun w => dec_ok d true w (by omega) hok)
        obtain ⟨hne, hall⟩ := decOk_parts hok
        rw [if_neg (by rw [hok]; simp [hU0])] at hP
        have hc := row_cell HG.out.units i (unitsV_at i hi4)
        obtain ⟨V, hV⟩ : ∃ V, valN d.data.toList = V := ⟨_, rfl⟩
        rw [hV] at hP
        have hi5 : (i : Int) < 4 := by omega
        by_cases hbig : V < 9223372036854775808
        · have HA := Lib.hid (fun w => atoi_any d V w (by omega) hne hall hV hbig)
          have hq1 := (byte_eq (show ((unitAt i : Nat) : Int) ≠ 0 by omega)).1
          by_cases hmx : 1099511627776 < V * unitAt i
          · have HR := Lib.hid (show parseSp s.data.toList = (0, 6) by rw [hP, if_pos hmx])
            have hdv : (1099511627776 : Int) / (unitAt i : Nat) < (V : Int) := by
              have : 1099511627776 / unitAt i < V := (Nat.div_lt_iff_lt_mul (by omega)).2 hmx
              rw [show (1099511627776 : Int) = ((1099511627776 : Nat) : Int) from rfl, ← Int.natCast_ediv]; exact_mod_cast this
            clear hP hu hi hbl hok hne hall hV hmx
            generalize unitAt i = U at *
            go_enter Tryd.func25, Tryd.ntmps25
            go_wp2_with fail
            refine (HI.out _).mono ?_; rintro e w1 ⟨rfl, rfl⟩
            go_wp2_with fail
            refine (HDC.out _).mono ?_; rintro e w2 ⟨rfl, rfl⟩
            go_wp2_with fail
            refine (HA.out _).mono ?_; rintro e w3 ⟨rfl, hb3⟩
            have hc3 := (hb3.cell (p := ⟨2, i, none⟩) (cell_here hc)).trans hc
            go_wp2_with fail
            go_ret2
            exact ⟨v_ret2 (by rw [HR.out]; rfl) (by rw [HR.out]), hb3⟩
          · rw [if_neg hmx] at hP
            have hdv : ¬ (1099511627776 : Int) / (unitAt i : Nat) < (V : Int) := by
              have : ¬ 1099511627776 / unitAt i < V := fun h => hmx ((Nat.div_lt_iff_lt_mul (by omega)).1 h)
              rw [show (1099511627776 : Int) = ((1099511627776 : Nat) : Int) from rfl, ← Int.natCast_ediv]; exact_mod_cast this
            have hmul : (V : Int) * ((unitAt i : Nat) : Int) = ((V * unitAt i : Nat) : Int) := (Int.natCast_mul _ _).symm
            obtain ⟨Pd, hPd⟩ : ∃ Pd, V * unitAt i = Pd := ⟨_, rfl⟩
            rw [hPd] at hP hmul hmx
            have hsl := spanL_nat Pd (by omega)
            have HSP := Lib.hid (fun w hg => span_any (Pd : Int) w hg)
            rw [hsl] at HSP
            have hst := str_eq (spanN Pd) s
            have hPle : Pd ≤ 1099511627776 := by omega
            by_cases hfin : spanN Pd = s.data.toList
            · have HR := Lib.hid (show parseSp s.data.toList = (Pd, 0) by rw [hP, if_neg (by simp [hfin])])
              rw [decide_eq_true hfin] at hst
              clear hP hu hi hbl hok hne hall hV hmx hPd hsl hfin
              generalize unitAt i = U at *
              go_enter Tryd.func25, Tryd.ntmps25
              go_wp2_with fail
              refine (HI.out _).mono ?_; rintro e w1 ⟨rfl, rfl⟩
              go_wp2_with fail
              refine (HDC.out _).mono ?_; rintro e w2 ⟨rfl, rfl⟩
              go_wp2_with fail
              refine (HA.out _).mono ?_; rintro e w3 ⟨rfl, hb3⟩
              have hc3 := (hb3.cell (p := ⟨2, i, none⟩) (cell_here hc)).trans hc
              go_wp2_with fail
              refine (HSP.out _ (HG.out.below hb3)).mono ?_; rintro e w4 ⟨rfl, hb4⟩
              have hc4 := (hb4.cell (p := ⟨2, i, none⟩) (cell_here hc3)).trans hc3
              go_wp2_with fail
              go_ret2
              exact ⟨v_ret2 (by rw [HR.out]) (by rw [HR.out]), hb3.trans (hb4.mono hb3.size)⟩
            · have HR := Lib.hid (show parseSp s.data.toList = (0, 2) by rw [hP, if_pos hfin])
              rw [decide_eq_false hfin] at hst
              clear hP hu hi hbl hok hne hall hV hmx hPd hsl hfin
              generalize unitAt i = U at *
              go_enter Tryd.func25, Tryd.ntmps25
              go_wp2_with fail
              refine (HI.out _).mono ?_; rintro e w1 ⟨rfl, rfl⟩
              go_wp2_with fail
              refine (HDC.out _).mono ?_; rintro e w2 ⟨rfl, rfl⟩
              go_wp2_with fail
              refine (HA.out _).mono ?_; rintro e w3 ⟨rfl, hb3⟩
              have hc3 := (hb3.cell (p := ⟨2, i, none⟩) (cell_here hc)).trans hc
              go_wp2_with fail
              refine (HSP.out _ (HG.out.below hb3)).mono ?_; rintro e w4 ⟨rfl, hb4⟩
              go_wp2_with fail
              go_ret2
              exact ⟨v_ret2 (by rw [HR.out]; rfl) (by rw [HR.out]), hb3.trans (hb4.mono hb3.size)⟩
        · have HA := Lib.hid (fun w he => atoi_big d w (by omega) hne hall (by omega) he)
          have HR := Lib.hid (show parseSp s.data.toList = (0, 6) by
            rw [hP, if_pos]
            have : V * 1 ≤ V * unitAt i := Nat.mul_le_mul_left V hb.1
            omega)
          clear hP hu hi hbl hok hne hall hV hbig
          generalize unitAt i = U at *
          go_enter Tryd.func25, Tryd.ntmps25
          go_wp2_with fail
          refine (HI.out _).mono ?_; rintro e w1 ⟨rfl, rfl⟩
          go_wp2_with fail
          refine (HDC.out _).mono ?_; rintro e w2 ⟨rfl, rfl⟩
          go_wp2_with fail
          refine (HA.out _ HG.out.rng).mono ?_; rintro e w3 ⟨⟨x, t, N, rfl⟩, hb3⟩
          go_wp2_with fail
          go_ret2
          exact ⟨v_ret2 (by rw [HR.out]; rfl) (by rw [HR.out]), hb3⟩
end Go.Proofs.YtlljocgcpaoenaaDoor
