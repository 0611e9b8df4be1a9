/- Outcomes: their names and their statuses. -/
import Derived.Test.YtlljocgcpaoenaaDoorNames
import Derived.Test.YtlljocgcpaoenaaDoorUnp
import Derived.Deep.WholeRow
namespace Go.Proofs.YtlljocgcpaoenaaDoor
open Go.RowKit

def emN (k : Nat) : List UInt8 := match k with
  | 0 => [111, 107]
  | 1 => [97, 114, 103, 117, 109, 101, 110, 116]
  | 2 => [115, 121, 110, 116, 97, 120]
  | 3 => [108, 105, 109, 105, 116]
  | 4 => [115, 104, 111, 114, 116]
  | 5 => [102, 111, 114, 109]
  | 6 => [114, 97, 110, 103, 101]
  | 7 => [117, 116, 102]
  | 8 => [110, 97, 109, 101]
  | 9 => [116, 119, 105, 99, 101]
  | 10 => [110, 111, 110, 101]
  | 11 => [111, 114, 100, 101, 114]
  | 12 => [116, 121, 112, 101]
  | 13 => [119, 105, 114, 101]
  | 14 => [109, 105, 115, 115, 105, 110, 103]
  | 15 => [117, 110, 105, 111, 110]
  | 16 => [101, 110, 117, 109]
  | 17 => [100, 101, 112, 116, 104]
  | 18 => [101, 120, 116, 114, 97]
  | 19 => [99, 121, 99, 108, 101]
  | 20 => [115, 116, 97, 116, 101]
  | 21 => [100, 101, 110, 105, 101, 100]
  | 22 => [102, 117, 108, 108]
  | 23 => [108, 97, 116, 101]
  | 24 => [99, 111, 110, 102, 108, 105, 99, 116]
  | 25 => [115, 117, 109]
  | _ => [117, 110, 107, 110, 111, 119, 110]
def em (e : Int) : List UInt8 := if 0 ≤ e then emN e.toNat else emN 99
theorem em_nat (k : Nat) : em (k : Int) = emN k := by unfold em; rw [if_pos (by omega)]; simp
theorem em_out (e : Int) (h : e < 0 ∨ 26 ≤ e) : em e = [117, 110, 107, 110, 111, 119, 110] := by
  unfold em
  split
  · have : ∃ k, e.toNat = k + 26 := ⟨e.toNat - 26, by omega⟩
    obtain ⟨k, hk⟩ := this
    rw [hk]; rfl
  · rfl
def errsV : Array Value := ((List.range 26).map fun i => Value.string ⟨(emN i).toArray⟩).toArray
theorem errsV_at (k : Nat) (h : k < 26) : errsV[k]? = some (.string ⟨(emN k).toArray⟩) := by simp [errsV, h]
theorem infoErrs : (Tryd.prog.info? 62).map (·.size) = some errsV.size := by kernel_rfl
theorem errs_one : errsV.all (·.oneCell') = true := by kernel_rfl
theorem build_as {P : Program} {ops : Array Oper} {rest : List Oper} {o : Oper} {a : Act} {w : World} {Q : Exit → Act → World → Prop} (hg : o.guard = none) (t : TypeId) (parts : Array (Nat × Operand)) (ho : o.op = .build t parts)
    (V : Array Value) (hV : P.built t (parts.map fun (i, x) => (i, a.eval x)).toList = some V) (h : wpList P ops Q rest (a.put o.dst (.agg V)) w) : wpList P ops Q (o :: rest) a w :=
  wpList_build hg t parts ho (by rw [hV]; rfl) (by rw [hV]; exact h)
theorem errs_store (w : World) : (storeCells ⟨w.heap.size, 0, none⟩ errsV.toList).run Tryd.prog (w.alloc (.cells #[.string ⟨#[]⟩, .string ⟨#[]⟩, .string ⟨#[]⟩, .string ⟨#[]⟩, .string ⟨#[]⟩, .string ⟨#[]⟩, .string ⟨#[]⟩, .string ⟨#[]⟩, .string ⟨#[]⟩, .string ⟨#[]⟩, .string ⟨#[]⟩, .string ⟨#[]⟩, .string ⟨#[]⟩, .string ⟨#[]⟩, .string ⟨#[]⟩, .string ⟨#[]⟩, .string ⟨#[]⟩, .string ⟨#[]⟩, .string ⟨#[]⟩, .string ⟨#[]⟩, .string ⟨#[]⟩, .string ⟨#[]⟩, .string ⟨#[]⟩, .string ⟨#[]⟩, .string ⟨#[]⟩, .string ⟨#[]⟩] 62)) = .ok () (w.alloc (.cells errsV 62)) :=
  run_storeCells_new w 62 _ errsV infoErrs rfl errs_one
set_option maxRecDepth 100000 in
theorem error_out (e : Int) (w : World) (h : e < 0 ∨ 26 ≤ e) :
    Calls Tryd.prog 43 #[.int .i64 e] w fun r w' => r = .returned (.string ⟨(em e).toArray⟩) ∧ Below w.heap.size w w' := by
  have HR := Lib.hid (em_out e h)
  have hst := errs_store
  rcases h with h | h
  all_goals
    go_enter Tryd.func43, Tryd.ntmps43
    go_wp2_with (refine build_as rfl 62 _ rfl errsV (by kernel_rfl) ?_)
    go_ret
    exact ⟨v_ret_str (by rw [HR.out]), (Below.refl _ _).alloc (Nat.le_refl _) _⟩
set_option maxRecDepth 100000 in
theorem error_in (k : Nat) (w : World) (h : k < 26) :
    Calls Tryd.prog 43 #[.int .i64 k] w fun r w' => r = .returned (.string ⟨(emN k).toArray⟩) ∧ Below w.heap.size w w' := by
  have HAT := Lib.hid (show ∀ h', errsV[k]'h' = .string ⟨(emN k).toArray⟩ from fun h' => by have := errsV_at k h; rw [Array.getElem?_eq_getElem h'] at this; exact Option.some.inj this)
  have hst := errs_store
  go_enter Tryd.func43, Tryd.ntmps43
  go_wp2_with (refine build_as rfl 62 _ rfl errsV (by kernel_rfl) ?_)
  go_ret
  exact ⟨by show Ending.returned (errsV[k]'_) = _; rw [HAT.out], (Below.refl _ _).alloc (Nat.le_refl _) _⟩
theorem error_any (e : Int) (w : World) :
    Calls Tryd.prog 43 #[.int .i64 e] w fun r w' => r = .returned (.string ⟨(em e).toArray⟩) ∧ Below w.heap.size w w' := by
  by_cases h : e < 0 ∨ 26 ≤ e
  · exact error_out e w h
  · obtain ⟨k, rfl⟩ : ∃ k : Nat, e = k := ⟨e.toNat, by omega⟩
    rw [em_nat]
    exact error_in k w (by omega)
def enC (k : Nat) : Int := match k with
  | 0 => 0
  | 1 => 23
  | 2 => 21
  | 3 => 22
  | 4 => 3
  | 5 => 17
  | 6 => 10
  | 7 => 9
  | 8 => 20
  | 9 => 24
  | 10 => 25
  | 11 => 11
  | 12 => 19
  | _ => 0
def cdC (k : Nat) : Int := match k with
  | 0 => 0
  | 1 => 3
  | 2 => 6
  | 3 => 7
  | 4 => 7
  | 5 => 7
  | 6 => 4
  | 7 => 5
  | 8 => 8
  | 9 => 9
  | 10 => 13
  | 11 => 11
  | 12 => 11
  | _ => 0
def cf (e : Int) : Nat → Int
  | 0 => if 0 < e ∧ e ≤ 25 then 2 else 11
  | k + 1 => if enC k = e then cdC k else cf e k
/-- the code of an outcome. -/
def rcN (k : Nat) : Int := match k with
  | 0 => 0
  | 1 => 2
  | 2 => 2
  | 3 => 7
  | 4 => 2
  | 5 => 2
  | 6 => 2
  | 7 => 2
  | 8 => 2
  | 9 => 5
  | 10 => 4
  | 11 => 11
  | 12 => 2
  | 13 => 2
  | 14 => 2
  | 15 => 2
  | 16 => 2
  | 17 => 7
  | 18 => 2
  | 19 => 11
  | 20 => 8
  | 21 => 6
  | 22 => 7
  | 23 => 3
  | 24 => 9
  | 25 => 13
  | _ => 11
def rc (e : Int) : Int := if 0 ≤ e then rcN e.toNat else 11
theorem rc_nat (k : Nat) : rc (k : Int) = rcN k := by unfold rc; rw [if_pos (by omega)]; simp
theorem rc_out (e : Int) (h : e < 0 ∨ 26 ≤ e) : rc e = 11 := by
  unfold rc
  split
  · have : ∃ k, e.toNat = k + 26 := ⟨e.toNat - 26, by omega⟩
    obtain ⟨k, hk⟩ := this
    rw [hk]; rfl
  · rfl
theorem cf_in : ∀ k : Fin 26, cf (k.1 : Int) 13 = rcN k.1 := by decide
theorem enC_le (k : Nat) : 0 ≤ enC k ∧ enC k ≤ 25 := by unfold enC; split <;> omega
theorem cf_out (e : Int) (h : e < 0 ∨ 26 ≤ e) : ∀ k, cf e k = 11
  | 0 => by rw [cf, if_neg (by omega)]
  | k + 1 => by
    have := enC_le k
    rw [cf, if_neg (by omega)]; exact cf_out e h k
theorem cf_rc (e : Int) : cf e 13 = rc e := by
  by_cases h : e < 0 ∨ 26 ≤ e
  · rw [cf_out e h, rc_out e h]
  · obtain ⟨k, rfl⟩ : ∃ k : Nat, e = k := ⟨e.toNat, by omega⟩
    rw [rc_nat]; exact cf_in ⟨k, by omega⟩
theorem infoCodes : (Tryd.prog.info? 49).map (·.size) = some codesV.size := by kernel_rfl
theorem codesV_idx0 (w : World) : (Instr.index 49 (.agg codesV) (.int .i64 0)).run Tryd.prog w = .ok (.agg #[.int .i64 (enC 0), .int .i64 (cdC 0)]) w := by kernel_rfl
theorem codesV_idx1 (w : World) : (Instr.index 49 (.agg codesV) (.int .i64 1)).run Tryd.prog w = .ok (.agg #[.int .i64 (enC 1), .int .i64 (cdC 1)]) w := by kernel_rfl
theorem codesV_idx2 (w : World) : (Instr.index 49 (.agg codesV) (.int .i64 2)).run Tryd.prog w = .ok (.agg #[.int .i64 (enC 2), .int .i64 (cdC 2)]) w := by kernel_rfl
theorem codesV_idx3 (w : World) : (Instr.index 49 (.agg codesV) (.int .i64 3)).run Tryd.prog w = .ok (.agg #[.int .i64 (enC 3), .int .i64 (cdC 3)]) w := by kernel_rfl
theorem codesV_idx4 (w : World) : (Instr.index 49 (.agg codesV) (.int .i64 4)).run Tryd.prog w = .ok (.agg #[.int .i64 (enC 4), .int .i64 (cdC 4)]) w := by kernel_rfl
theorem codesV_idx5 (w : World) : (Instr.index 49 (.agg codesV) (.int .i64 5)).run Tryd.prog w = .ok (.agg #[.int .i64 (enC 5), .int .i64 (cdC 5)]) w := by kernel_rfl
theorem codesV_idx6 (w : World) : (Instr.index 49 (.agg codesV) (.int .i64 6)).run Tryd.prog w = .ok (.agg #[.int .i64 (enC 6), .int .i64 (cdC 6)]) w := by kernel_rfl
theorem codesV_idx7 (w : World) : (Instr.index 49 (.agg codesV) (.int .i64 7)).run Tryd.prog w = .ok (.agg #[.int .i64 (enC 7), .int .i64 (cdC 7)]) w := by kernel_rfl
theorem codesV_idx8 (w : World) : (Instr.index 49 (.agg codesV) (.int .i64 8)).run Tryd.prog w = .ok (.agg #[.int .i64 (enC 8), .int .i64 (cdC 8)]) w := by kernel_rfl
theorem codesV_idx9 (w : World) : (Instr.index 49 (.agg codesV) (.int .i64 9)).run Tryd.prog w = .ok (.agg #[.int .i64 (enC 9), .int .i64 (cdC 9)]) w := by kernel_rfl
theorem codesV_idx10 (w : World) : (Instr.index 49 (.agg codesV) (.int .i64 10)).run Tryd.prog w = .ok (.agg #[.int .i64 (enC 10), .int .i64 (cdC 10)]) w := by kernel_rfl
theorem codesV_idx11 (w : World) : (Instr.index 49 (.agg codesV) (.int .i64 11)).run Tryd.prog w = .ok (.agg #[.int .i64 (enC 11), .int .i64 (cdC 11)]) w := by kernel_rfl
theorem codesV_idx12 (w : World) : (Instr.index 49 (.agg codesV) (.int .i64 12)).run Tryd.prog w = .ok (.agg #[.int .i64 (enC 12), .int .i64 (cdC 12)]) w := by kernel_rfl
theorem codesV_idx (k : Nat) (h : k < 13) (w : World) : (Instr.index 49 (.agg codesV) (.int .i64 k)).run Tryd.prog w = .ok (.agg #[.int .i64 (enC k), .int .i64 (cdC k)]) w := by
  have hc : k = 0 ∨ k = 1 ∨ k = 2 ∨ k = 3 ∨ k = 4 ∨ k = 5 ∨ k = 6 ∨ k = 7 ∨ k = 8 ∨ k = 9 ∨ k = 10 ∨ k = 11 ∨ k = 12 := by omega
  rcases hc with rfl | rfl | rfl | rfl | rfl | rfl | rfl | rfl | rfl | rfl | rfl | rfl | rfl
  · exact codesV_idx0 w
  · exact codesV_idx1 w
  · exact codesV_idx2 w
  · exact codesV_idx3 w
  · exact codesV_idx4 w
  · exact codesV_idx5 w
  · exact codesV_idx6 w
  · exact codesV_idx7 w
  · exact codesV_idx8 w
  · exact codesV_idx9 w
  · exact codesV_idx10 w
  · exact codesV_idx11 w
  · exact codesV_idx12 w
def ofT (e : Int) : ByteArray := if e = 0 then ⟨#[]⟩ else ⟨(em e).toArray⟩
theorem infoU : True := trivial
set_option maxHeartbeats 2000000 in
set_option maxRecDepth 100000 in
theorem of_any (e : Int) (w : World) (hg : Gs w) :
    Calls Tryd.prog 23 #[.int .i64 e] w fun r w' => r = .returned (.agg #[.int .i64 (rc e), .string (ofT e)]) ∧ Below w.heap.size w w' := by
  obtain ⟨ty, fz, hn⟩ := hg.codes
  have hA : (w.alloc (.cells #[.int .i64 0, .string ⟨#[]⟩] 29)).heap[1]? = some (.cells codesV ty fz) := (((Below.refl _ _).alloc (Nat.le_refl _) _).block _ (heap_here hn)).trans hn
  have HN := Lib.hid hA; clear hn hA
  have h3 : e ≤ 0 ∨ (0 < e ∧ e ≤ 25) ∨ 25 < e := by omega
  have HCF := Lib.hid (cf_rc e)
  obtain ⟨c0, hc0⟩ : ∃ c0, cf e 0 = c0 := ⟨_, rfl⟩
  have hcf0 : cf e 0 = if 0 < e ∧ e ≤ 25 then 2 else 11 := rfl
  rw [hc0] at hcf0
  have hv : c0 = 2 ∧ (0 < e ∧ e ≤ 25) ∨ c0 = 11 ∧ (e ≤ 0 ∨ 25 < e) := by
    split at hcf0 <;> omega
  have HC0 := Lib.hid hc0; clear hc0 hcf0 h3
  rcases hv with ⟨rfl, h1, h2⟩ | ⟨rfl, h1 | h1⟩
  all_goals
    go_enter Tryd.func23, Tryd.ntmps23
    go_wp2_with (refine wpList_load_row rfl _ _ rfl 1 rfl ty codesV fz (.array 13 48) HN.out Tryd.underlying49 rfl infoCodes ?_)
    go_loopw [3, 13] (fun c i wr => ∃ k : Nat, k ≤ 13 ∧ i = .int .i64 k ∧ c = .int .i64 (cf e k) ∧ Bk wr w.heap.size 29 #[.int .i64 0, .string ⟨#[]⟩] ∧ Below w.heap.size w wr) (fun _ i _ => 13 - (intOf i).toNat)
    case atStart => exact ⟨0, by omega, rfl, by rw [HC0.out], Bk.new _ _ _, (Below.refl _ _).alloc (Nat.le_refl _) _⟩
    case round =>
      obtain ⟨k, hk, rfl, rfl, hbk, hb⟩ := hrel
      have HK := Lib.hid hbk; have HB := Lib.hid hb; have hbs := hb.size; clear hbk hb
      by_cases hlt : k < 13
      · have hidx := fun w => codesV_idx k hlt w
        have HS := Lib.hid (show cf e (k + 1) = if enC k = e then cdC k else cf e k from rfl)
        generalize hcd : cdC k = cd at *
        generalize hen : enC k = en at *
        clear hcd hen
        by_cases he : en = e
        · have hq := (byte_eq' he).1
          have HR := Lib.hid (HS.out.trans (if_pos he)); clear he
          go_wp2_with fail
          go_roundw
          case rel => exact ⟨k + 1, by omega, by go_num, by rw [HR.out], HK.out.more _, HB.out.alloc hbs _⟩
          case measure => simp [intOf]; omega
        · have hq := (byte_eq he).1
          have HR := Lib.hid (HS.out.trans (if_neg he)); clear he
          go_wp2_with fail
          go_roundw
          case rel => exact ⟨k + 1, by omega, by go_num, by rw [HR.out], HK.out.more _, HB.out.alloc hbs _⟩
          case measure => simp [intOf]; omega
      · obtain rfl : k = 13 := by omega
        rw [HCF.out]
        have c1 : wr.cell? ⟨w.heap.size, 0, none⟩ = some (.int .i64 0) := HK.out.at_ 0 rfl
        have c2 : wr.cell? ⟨w.heap.size, 1, none⟩ = some (.string ⟨#[]⟩) := HK.out.at_ 1 rfl
        have f0 := HK.out.free
        by_cases hz : e = 0
        · first
            | (exfalso; omega)
            | (subst hz
               have HT := Lib.hid (show ofT 0 = ⟨#[]⟩ by rfl)
               have HR0 := Lib.hid (show rc 0 = 0 by rfl)
               go_wp2_with fail
               exact bodyPost_ret (res_c Tryd.results23 _ rfl ((HK.out.put 0 _).put 1 _) aggSt) rfl ⟨by rw [HT.out, HR0.out]; rfl, (HB.out.setCell (Nat.le_refl _) _).setCell (Nat.le_refl _) _⟩)
        · have hq := (byte_eq hz).1
          have HT := Lib.hid (show ofT e = ⟨(em e).toArray⟩ by unfold ofT; rw [if_neg hz])
          clear hz c1 c2 f0
          have HE := Lib.hid (fun w => error_any e w)
          go_wp2_with fail
          refine (HE.out _).mono ?_; rintro r w2 ⟨rfl, hb2⟩
          have K2 := HK.out.keep hb2
          have c1 : w2.cell? ⟨w.heap.size, 0, none⟩ = some (.int .i64 0) := K2.at_ 0 rfl
          have c2 : w2.cell? ⟨w.heap.size, 1, none⟩ = some (.string ⟨#[]⟩) := K2.at_ 1 rfl
          have f0 := K2.free
          have HK2 := Lib.hid K2
          have HB2 := Lib.hid (HB.out.trans (hb2.mono hbs))
          clear K2 hb2
          go_wp2_with fail
          exact bodyPost_ret (res_c Tryd.results23 _ rfl ((HK2.out.put 0 _).put 1 _) aggSt) rfl ⟨by rw [HT.out]; rfl, (HB2.out.setCell (Nat.le_refl _) _).setCell (Nat.le_refl _) _⟩
end Go.Proofs.YtlljocgcpaoenaaDoor
