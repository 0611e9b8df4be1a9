/- The walk of the law DigestBytes. -/
import Derived.Test.YtngdndkgmbcnpaaDoorLawB
namespace Go.Proofs.YtngdndkgmbcnpaaDoor
open Go.RowKit

def other (s : ByteArray) (at_ : Int) (x : UInt8) : Prop := 3000 < s.size ∨ at_ < 0 ∨ (s.size : Int) ≤ at_ ∨ x.toNat = 0
theorem bytes_skip (s : ByteArray) (a : Int) (x : UInt8) (w : World) (hg : Gv w) (h : other s a x) :
    Calls Tryd.prog 4 #[.string s, .int .i64 a, .int .u8 (x.toNat : Int)] w (AnsB true w) := by
  have HG := Lib.hid hg; clear hg
  by_cases h1 : 3000 < s.size
  · clear h
    go_enter Tryd.func4, Tryd.ntmps4
    go_wp2_with fail
    refine (awake_any _ HG.out).mono ?_; rintro e w8 ⟨rfl, hb8⟩
    go_wp2_with fail
    go_ret
    exact ⟨rfl, hb8⟩
  by_cases h2 : a < 0
  · clear h
    go_enter Tryd.func4, Tryd.ntmps4
    go_wp2_with fail
    refine (awake_any _ HG.out).mono ?_; rintro e w8 ⟨rfl, hb8⟩
    go_wp2_with fail
    go_ret
    exact ⟨rfl, hb8⟩
  by_cases h3 : (s.size : Int) ≤ a
  · clear h
    go_enter Tryd.func4, Tryd.ntmps4
    go_wp2_with fail
    refine (awake_any _ HG.out).mono ?_; rintro e w8 ⟨rfl, hb8⟩
    go_wp2_with fail
    go_ret
    exact ⟨rfl, hb8⟩
  · have h4 : x.toNat = 0 := by unfold other at h; omega
    clear h
    rw [h4]
    go_enter Tryd.func4, Tryd.ntmps4
    go_wp2_with fail
    refine (awake_any _ HG.out).mono ?_; rintro e w8 ⟨rfl, hb8⟩
    go_wp2_with fail
    go_ret
    exact ⟨rfl, hb8⟩
theorem xor8 (a b : UInt8) : bits .xor .u8 (a.toNat : Int) (b.toNat : Int) = (((a ^^^ b).toNat : Nat) : Int) := by
  rw [u8_xor_nat _ _ a.toNat_lt b.toNat_lt, UInt8.toNat_xor]
theorem xor_ne (a x : UInt8) (h : x.toNat ≠ 0) : a ^^^ x ≠ a := by
  intro e
  have h1 := congrArg UInt8.toNat e
  rw [UInt8.toNat_xor] at h1
  have h2 : a.toNat ^^^ x.toNat = a.toNat ^^^ 0 := by rw [h1, Nat.xor_zero]
  exact h (xor_cancel_left h2)
theorem mk_size (l : List UInt8) : (⟨l.toArray⟩ : ByteArray).size = l.length := by show l.toArray.size = _; simp
theorem ne_dec {a b : Int} (h : a ≠ b) : (a == b) = false := by simpa using h
theorem bytes_main (s : ByteArray) (k : Nat) (x : UInt8) (w : World) (hg : Gv w) (h1 : s.size ≤ 3000) (h2 : k < s.size) (h3 : x.toNat ≠ 0) :
    Calls Tryd.prog 4 #[.string s, .int .i64 k, .int .u8 (x.toNat : Int)] w (AnsB true w) := by
  have HG := Lib.hid hg; clear hg
  obtain ⟨cap, W1, hcv, hb, hlt, hcap, hbs⟩ := bs_of s w
  have hl : s.data.toList.length = s.size := by rw [Array.length_toList]; rfl
  have hkl : k < s.data.toList.length := by omega
  have hs1 := hbs.set hkl (s.data.toList[k] ^^^ x)
  have hbb : Below w.heap.size w (W1.setCell ⟨w.heap.size, k, none⟩ (.int .u8 ((s.data.toList[k] ^^^ x).toNat : Int))) := hb.setCell (p := ⟨w.heap.size, k, none⟩) (Nat.le_refl _) _
  have hback := hs1.back cap
  rw [List.length_set, hl] at hback
  have hc := hbs.cell hkl
  have hz := hbs.free hkl
  have hx := xor8 s.data.toList[k] x
  have HB := Lib.hid hbb; have HBS := Lib.hid hs1
  have hW := hb.size
  clear hbs hs1 hb hbb
  have HF := Lib.hid (fnv_set_ne s.data.toList k hkl _ (xor_ne s.data.toList[k] x h3))
  have HC := Lib.hid (crc_set_ne s.data.toList k hkl _ (xor_ne s.data.toList[k] x h3))
  have hneg : ¬ (k : Int) < 0 := by omega
  have hge : ¬ (s.size : Int) ≤ (k : Int) := by omega
  have hx0 : ((x.toNat : Int) == 0) = false := ne_dec (by omega)
  have hgx : s.size ≤ 9223372036854775806 := by omega
  have hsz : (⟨(s.data.toList.set k (s.data.toList[k] ^^^ x)).toArray⟩ : ByteArray).size = s.size := by rw [mk_size, List.length_set, hl]
  have hdd : (⟨(s.data.toList.set k (s.data.toList[k] ^^^ x)).toArray⟩ : ByteArray).data.toList = s.data.toList.set k (s.data.toList[k] ^^^ x) := rfl
  generalize s.data.toList[k] = c at *
  generalize c ^^^ x = y at *
  generalize hT : (⟨(s.data.toList.set k y).toArray⟩ : ByteArray) = T at *
  have HSZ := Lib.hid (show T.size ≤ 9223372036854775806 by omega)
  rw [← hdd] at HF HC
  clear hT hdd hsz hl
  go_enter Tryd.func4, Tryd.ntmps4
  go_wp2_with fail
  refine (fnv_any T _ HSZ.out).mono ?_; rintro e w1 ⟨rfl, rfl⟩
  go_wp2_with fail
  refine (fnv_any s _ hgx).mono ?_; rintro e w1 ⟨rfl, rfl⟩
  have hne := ne_dec HF.out
  have hne2 : (fnvI T.data.toList != fnvI s.data.toList) = true := by rw [bne, hne]; rfl
  go_wp2_with fail
  clear hne hne2
  refine (crc_any T _ HSZ.out).mono ?_; rintro e w1 ⟨rfl, rfl⟩
  go_wp2_with fail
  refine (crc_any s _ hgx).mono ?_; rintro e w1 ⟨rfl, rfl⟩
  have hne : (((4294967295 - crcR T.data.toList : Nat) : Int) != ((4294967295 - crcR s.data.toList : Nat) : Int)) = true := by
    rw [bne, ne_dec]
    · rfl
    · intro e; exact HC.out (by unfold crcV; omega)
  go_wp2_with fail
  clear hne
  refine (awake_any _ (HG.out.below HB.out)).mono ?_; rintro e w8 ⟨rfl, hb8⟩
  go_wp2_with fail
  go_ret
  exact ⟨rfl, HB.out.trans (hb8.mono HB.out.size)⟩
theorem bytes_law (s : ByteArray) (a : Int) (x : UInt8) (w : World) (hg : Gv w) :
    Calls Tryd.prog 4 #[.string s, .int .i64 a, .int .u8 (x.toNat : Int)] w (AnsB true w) := by
  by_cases h : other s a x
  · exact bytes_skip s a x w hg h
  · unfold other at h
    obtain ⟨k, rfl⟩ : ∃ k : Nat, a = k := ⟨a.toNat, by omega⟩
    exact bytes_main s k x w hg (by omega) (by omega) (by omega)
end Go.Proofs.YtngdndkgmbcnpaaDoor
