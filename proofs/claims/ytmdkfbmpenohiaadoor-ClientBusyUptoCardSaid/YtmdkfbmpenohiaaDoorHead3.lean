/- Heads: their bytes, the program's Head. -/
import Derived.Test.YtmdkfbmpenohiaaDoorBunH
import Derived.Test.YtmdkfbmpenohiaaDoorBld
namespace Go.Proofs.YtmdkfbmpenohiaaDoor
open Go.RowKit

/-- loads, conversions of numbers and len answer alike in every world of 'Inv'. -/
def kf4 : Op → RK
  | .convert _ _ _ => ⟨true, true⟩
  | .load _ _ => ⟨true, true⟩
  | .call { callee := .builtin .len, .. } => ⟨true, true⟩
  | o => kf0 o
theorem IsB.below {B b : Nat} {l : List Value} {w w' : World} (h : IsB B b l w) (hb : Below w.heap.size w w') : IsB B b l w' := by
  have key : ∀ p, Lib.BuilderAtF 128 5 B b p l w → Lib.BuilderAtF 128 5 B b p l w' := by
    rintro p ⟨hB, v, hv, hown, hne⟩
    have hlt : b < w.heap.size := Lib.BuilderAtF.lt ⟨hB, v, hv, hown, hne⟩
    exact ⟨hB, v, (hb.block b hlt).trans hv, hown.kept (row := none) (grown_below hb) (by cases hv : v.ownBlock <;> simp), hne⟩
  rcases h with h | h
  · exact .inl (key _ h)
  · exact .inr (key _ h)
theorem IsB.here {B b : Nat} {l : List Value} {w : World} (h : IsB B b l w) : B ≤ b ∧ b < w.heap.size := by
  rcases h with h | h
  · exact ⟨h.1, h.lt⟩
  · exact ⟨h.1, h.lt⟩
theorem IsB.fresh (w : World) (B : Nat) (hB : B ≤ w.heap.size) : IsB B w.heap.size [] (w.alloc (.cells #[.pointer none, .slice none 0 0] 128)) :=
  .inl ⟨hB, .slice none 0 0, heap_alloc_new w _, ⟨rfl, .inl ⟨rfl, rfl⟩⟩, by simp [Value.ownBlock]⟩
theorem wsL (B b : Nat) (l : List UInt8) (s : ByteArray) (w : World) (h : IsB B b (Lib.byteCells l) w) (hlen : l.length + s.size ≤ 140737488355328) (hBw : B ≤ w.heap.size) :
    Calls Tryd.prog 69 #[.pointer (some ⟨b, 0, none⟩), .string s] w fun e w' => e = .returned (.tuple #[.int .i64 s.size, .nilIface]) ∧ IsB B b (Lib.byteCells (l ++ s.data.toList)) w' ∧ Below B w w' ∧ Kept b w w' :=
  (ws_any B b _ s w h (by simpa [Lib.byteCells] using hlen) hBw).mono fun e w' ⟨h1, h2, h3, h4⟩ => ⟨h1, by simpa [Lib.byteCells, Lib.strCells] using h2, h3, h4⟩
theorem Bk.kept {w w' : World} {k b : Nat} {ty : TypeId} {cs : Array Value} (h : Bk w k ty cs) (hk : Kept b w w') (hn : k ≠ b) (ht : ty ≠ 5) : Bk w' k ty cs :=
  hk k _ h (fun e => hn (Option.some.inj e)) (fun c fz e => ht (by injection e))
theorem headE_ok {h : HdV} (he : headE h = 0) : 0 ≤ h.late ∧ h.late ≤ 1099511627776 ∧ h.metas.length ≤ 16 := by
  unfold headE at he
  split at he
  · cases he
  · split at he
    · cases he
    · split at he
      · cases he
      · omega
theorem sized_len (s : ByteArray) : (sized s).length ≤ 10 + s.size := by
  have := putL_len s.size
  have h2 : s.data.toList.length = s.size := by rw [Array.length_toList]; rfl
  unfold sized; rw [List.length_append]; omega
/-- the bytes written ahead of entry k. -/
def accK (h : HdV) (k : Nat) : List UInt8 := (sized h.svc ++ sized h.mth ++ putL h.late.toNat ++ putL h.metas.length) ++ (h.metas.take k).flatMap metaB
theorem accK_succ (h : HdV) {k : Nat} (hk : k < h.metas.length) : accK h (k + 1) = accK h k ++ metaB h.metas[k] := by
  unfold accK; rw [List.take_succ_eq_append_getElem hk, List.flatMap_append]; simp
theorem accK_all (h : HdV) : accK h h.metas.length = headL h := by unfold accK headL; rw [List.take_length]
theorem accK_len (h : HdV) (hz : HdSz h) : ∀ k, k ≤ h.metas.length → (accK h k).length ≤ 10000000000 * (k + 1)
  | 0, _ => by
    have h1 := sized_len h.svc; have h2 := sized_len h.mth; have h3 := putL_len h.late.toNat; have h4 := putL_len h.metas.length
    obtain ⟨z1, z2, _⟩ := hz
    unfold accK; simp only [List.take_zero, List.flatMap_nil, List.append_nil, List.length_append]; omega
  | k + 1, hk => by
    have ih := accK_len h hz k (by omega)
    obtain ⟨z1, z2⟩ := hz.2.2 h.metas[k] (List.getElem_mem (by omega))
    have h1 := sized_len h.metas[k].1; have h2 := sized_len h.metas[k].2
    rw [accK_succ h (by omega), List.length_append]
    unfold metaB; rw [List.length_append]; omega
theorem headW_bad {h : HdV} (he : headE h ≠ 0) : headW h = ⟨[], headE h⟩ := by unfold headW; rw [if_neg he]
theorem headW_good {h : HdV} (he : headE h = 0) : headW h = ⟨headL h, 0⟩ := by unfold headW; rw [if_pos he]
theorem int_ok {f : FuncId} {args : Array Value} {a b : Int} {w : World} (h : a = b) (hc : Calls Tryd.prog f args w fun e w' => e = .returned (.int .i64 a) ∧ Below w.heap.size w w') :
    Calls Tryd.prog f args w fun e w' => e = .returned (.int .i64 b) ∧ Below w.heap.size w w' := by subst h; exact hc
set_option maxHeartbeats 4000000 in
set_option maxRecDepth 100000 in
theorem head_some (svc mth : ByteArray) (late : Int) (ms : List (ByteArray × ByteArray)) (g o cap : Nat) (w : World) (hg : MLen w) (hgl : g < w.heap.size) (hcs : ∀ i (h : i < ms.length), w.cell? ⟨g, o + i * 2, none⟩ = some (.string ms[i].1) ∧ w.cell? ⟨g, o + i * 2 + 1, none⟩ = some (.string ms[i].2)) (hz : HdSz ⟨svc, mth, late, ms⟩) (he : headE ⟨svc, mth, late, ms⟩ = 0) :
    Calls Tryd.prog 63 #[.agg #[.string svc, .string mth, .int .i64 late, .slice (some ⟨g, o, none⟩) ms.length cap]] w fun e w' => e = .returned (.tuple #[.string ⟨(headL ⟨svc, mth, late, ms⟩).toArray⟩, .int .i64 0]) ∧ Below w.heap.size w w' := by
  obtain ⟨hl1, hl2, hl3⟩ := headE_ok he
  have hl1 : 0 ≤ late := hl1
  have hl2 : late ≤ 1099511627776 := hl2
  have hl3 : ms.length ≤ 16 := hl3
  obtain ⟨lt, rfl⟩ : ∃ n : Nat, late = n := ⟨late.toNat, by omega⟩
  have HE := Lib.hid (fun w hg hgl hcs => int_ok he (headed_some svc mth lt ms g o cap w hg hgl hcs hz))
  have hp1 := sized_len svc; have hp2 := sized_len mth; have hp3 := putL_len lt; have hp4 := putL_len ms.length
  have z1 : svc.size < 4294967281 := hz.1
  have z2 : mth.size < 4294967281 := hz.2.1
  have HZ := Lib.hid hz
  have HS1 := Lib.hid (fun w => sized_any svc w (by omega)); have HS2 := Lib.hid (fun w => sized_any mth w (by omega))
  have HP1 := Lib.hid (fun w => put_any lt w (by omega)); have HP2 := Lib.hid (fun w => put_any ms.length w (by omega))
  have HB0 := Lib.hid (show Below w.heap.size w (w.alloc (.cells #[.string svc, .string mth, .int .i64 lt, .slice (some ⟨g, o, none⟩) ms.length cap] HT)) from (Below.refl _ _).alloc (Nat.le_refl _) _)
  have HK0 := Lib.hid (Bk.new w HT #[.string svc, .string mth, .int .i64 lt, .slice (some ⟨g, o, none⟩) ms.length cap])
  have HG0 := Lib.hid (hg.below HB0.out)
  have HC := Lib.hid hcs
  have HC0 := Lib.hid (show ∀ i (h : i < ms.length), (w.alloc (.cells #[.string svc, .string mth, .int .i64 lt, .slice (some ⟨g, o, none⟩) ms.length cap] HT)).cell? ⟨g, o + i * 2, none⟩ = some (.string ms[i].1) ∧ (w.alloc (.cells #[.string svc, .string mth, .int .i64 lt, .slice (some ⟨g, o, none⟩) ms.length cap] HT)).cell? ⟨g, o + i * 2 + 1, none⟩ = some (.string ms[i].2) from fun i h => ⟨(HB0.out.cell (p := ⟨g, o + i * 2, none⟩) hgl).trans (hcs i h).1, (HB0.out.cell (p := ⟨g, o + i * 2 + 1, none⟩) hgl).trans (hcs i h).2⟩)
  have hgl0 : g < (w.alloc (.cells #[.string svc, .string mth, .int .i64 lt, .slice (some ⟨g, o, none⟩) ms.length cap] HT)).heap.size := by simp; omega
  have HGL0 := Lib.hid hgl0; clear hgl0
  have hwl : IntKind.u64.wrap (lt : Int) = lt := by rw [IntKind.wrap_u64]; omega
  have hwn : IntKind.u64.wrap (ms.length : Int) = ms.length := by rw [IntKind.wrap_u64]; omega
  clear hg hcs hz he hl1 hl2 z1 z2
  go_enter Tryd.func63, Tryd.ntmps63
  go_wp2_with fail
  refine (HE.out _ HG0.out HGL0.out HC0.out).mono ?_; rintro e w1 ⟨rfl, hb1⟩
  have HB1 := Lib.hid (HB0.out.trans (hb1.mono HB0.out.size)); have HK1 := Lib.hid (HK0.out.keep hb1); clear hb1
  go_wp2_with fail
  have HK2 := Lib.hid (HK1.out.more (.cells #[.pointer none, .slice none 0 0] 128))
  have k0 : (w1.alloc (.cells #[.pointer none, .slice none 0 0] 128)).cell? ⟨w.heap.size, 0, none⟩ = some (.string svc) := HK2.out.at_ 0 rfl
  have k1 : (w1.alloc (.cells #[.pointer none, .slice none 0 0] 128)).cell? ⟨w.heap.size, 1, none⟩ = some (.string mth) := HK2.out.at_ 1 rfl
  have k2 : (w1.alloc (.cells #[.pointer none, .slice none 0 0] 128)).cell? ⟨w.heap.size, 2, none⟩ = some (.int .i64 lt) := HK2.out.at_ 2 rfl
  have k3 : (w1.alloc (.cells #[.pointer none, .slice none 0 0] 128)).cell? ⟨w.heap.size, 3, none⟩ = some (.slice (some ⟨g, o, none⟩) ms.length cap) := HK2.out.at_ 3 rfl
  have HN0 := Lib.hid (show w.heap.size + 1 ≤ (w1.alloc (.cells #[.pointer none, .slice none 0 0] 128)).heap.size by have := HK1.out.here; simp; omega)
  have HBB0 := Lib.hid (HB1.out.alloc HB1.out.size (.cells #[.pointer none, .slice none 0 0] 128))
  have HIS0 := Lib.hid (IsB.fresh w1 (w.heap.size + 1) HK1.out.here)
  have HBL := Lib.hid (show w.heap.size + 1 ≤ w1.heap.size from HK1.out.here)
  have HAL := Lib.hid (accK_len ⟨svc, mth, lt, ms⟩ HZ.out)
  have HA0 := Lib.hid (show accK ⟨svc, mth, lt, ms⟩ 0 = sized svc ++ sized mth ++ putL lt ++ putL ms.length by unfold accK; simp)
  have hs1 := full_size (sized svc); have hs2 := full_size (sized mth); have hs3 := full_size (putL lt); have hs4 := full_size (putL ms.length)
  have z1 : svc.size < 4294967281 := HZ.out.1
  have z2 : mth.size < 4294967281 := HZ.out.2.1
  have hn1 : ¬ 9223372036854775807 < (sized svc).length + (sized mth).length := by omega
  have hn2 : ¬ 9223372036854775807 < (sized svc).length + (sized mth).length + (putL lt).length := by omega
  have hn3 : ¬ 9223372036854775807 < (sized svc).length + (sized mth).length + (putL lt).length + (putL ms.length).length := by omega
  have HX := Lib.hid (show (⟨(sized svc).toArray⟩ ++ ⟨(sized mth).toArray⟩ ++ ⟨(putL lt).toArray⟩ ++ ⟨(putL ms.length).toArray⟩ : ByteArray).data.toList = accK ⟨svc, mth, lt, ms⟩ 0 by rw [HA0.out]; simp [ByteArray.data_append])
  have HXS := Lib.hid (show (⟨(sized svc).toArray⟩ ++ ⟨(sized mth).toArray⟩ ++ ⟨(putL lt).toArray⟩ ++ ⟨(putL ms.length).toArray⟩ : ByteArray).size ≤ 10000000000 by rw [ByteArray.size_append, ByteArray.size_append, ByteArray.size_append, hs1, hs2, hs3, hs4]; omega)
  clear z1 z2
  generalize hAA : sized svc = A at *
  generalize hBB : sized mth = B at *
  generalize hCC : putL lt = C at *
  generalize hDD : putL ms.length = D at *
  clear hAA hBB hCC hDD
  refine wp_region_T (InvB (w.heap.size + 1) (w1.alloc (.cells #[.pointer none, .slice none 0 0] 128))) kf4 (by kernel_rfl) (by kernel_rfl) (InvB.refl _ _).drew ?_
  (first | (refine wpT_skip rfl (fun K hK => ?_); try go_simp; refine hK _ _ ?_; clear hK K) | (refine wpT_pure rfl rfl _ (fun w' hI => by unfold InvB at hI; go_simp; rfl) (fun K hK => ?_); try go_simp; refine hK _ _ ?_; clear hK K) | (refine wpT_pure rfl rfl _ (fun w' hI => by go_simp; rfl) (fun K hK => ?_); try go_simp; refine hK _ _ ?_; clear hK K) | (refine wpT_read rfl rfl rfl _ (by go_simp; rfl) (fun K hK => ?_); try go_simp; refine hK _ _ ?_; clear hK K))
  (first | (refine wpT_skip rfl (fun K hK => ?_); try go_simp; refine hK _ _ ?_; clear hK K) | (refine wpT_pure rfl rfl _ (fun w' hI => by unfold InvB at hI; go_simp; rfl) (fun K hK => ?_); try go_simp; refine hK _ _ ?_; clear hK K) | (refine wpT_pure rfl rfl _ (fun w' hI => by go_simp; rfl) (fun K hK => ?_); try go_simp; refine hK _ _ ?_; clear hK K) | (refine wpT_read rfl rfl rfl _ (by go_simp; rfl) (fun K hK => ?_); try go_simp; refine hK _ _ ?_; clear hK K))
  refine wpT_act rfl rfl rfl (fun K hK => ?_); go_simp
  refine (HS1.out _).mono ?_; rintro e x1 ⟨rfl, hb1⟩; try go_simp
  have HI1 := Lib.hid ((InvB.refl _ _).drew.below hb1 (show w.heap.size + 1 ≤ _ from HN0.out)); have HS1 := Lib.hid (Nat.le_trans HN0.out hb1.size)
  have HBB1 := Lib.hid (HBB0.out.drew.trans (hb1.mono (show w.heap.size ≤ _ from Nat.le_trans (Nat.le_succ _) HN0.out))); have HIS1 := Lib.hid (IsB.below (w := (w1.alloc (.cells #[.pointer none, .slice none 0 0] 128)).drew) HIS0.out hb1)
  refine hK _ _ ⟨HI1.out, ?_⟩; clear hK K hb1
  (first | (refine wpT_skip rfl (fun K hK => ?_); try go_simp; refine hK _ _ ?_; clear hK K) | (refine wpT_pure rfl rfl _ (fun w' hI => by unfold InvB at hI; go_simp; rfl) (fun K hK => ?_); try go_simp; refine hK _ _ ?_; clear hK K) | (refine wpT_pure rfl rfl _ (fun w' hI => by go_simp; rfl) (fun K hK => ?_); try go_simp; refine hK _ _ ?_; clear hK K) | (refine wpT_read rfl rfl rfl _ (by go_simp; rfl) (fun K hK => ?_); try go_simp; refine hK _ _ ?_; clear hK K))
  (first | (refine wpT_skip rfl (fun K hK => ?_); try go_simp; refine hK _ _ ?_; clear hK K) | (refine wpT_pure rfl rfl _ (fun w' hI => by unfold InvB at hI; go_simp; rfl) (fun K hK => ?_); try go_simp; refine hK _ _ ?_; clear hK K) | (refine wpT_pure rfl rfl _ (fun w' hI => by go_simp; rfl) (fun K hK => ?_); try go_simp; refine hK _ _ ?_; clear hK K) | (refine wpT_read rfl rfl rfl _ (by go_simp; rfl) (fun K hK => ?_); try go_simp; refine hK _ _ ?_; clear hK K))
  refine wpT_act rfl rfl rfl (fun K hK => ?_); go_simp
  refine (HS2.out _).mono ?_; rintro e x2 ⟨rfl, hb2⟩; try go_simp
  have HI2 := Lib.hid (HI1.out.below hb2 HS1.out); have HS2 := Lib.hid (Nat.le_trans HS1.out hb2.size)
  have HBB2 := Lib.hid (HBB1.out.trans (hb2.mono HBB1.out.size)); have HIS2 := Lib.hid (HIS1.out.below hb2)
  refine hK _ _ ⟨HI2.out, ?_⟩; clear hK K hb2
  (first | (refine wpT_skip rfl (fun K hK => ?_); try go_simp; refine hK _ _ ?_; clear hK K) | (refine wpT_pure rfl rfl _ (fun w' hI => by unfold InvB at hI; go_simp; rfl) (fun K hK => ?_); try go_simp; refine hK _ _ ?_; clear hK K) | (refine wpT_pure rfl rfl _ (fun w' hI => by go_simp; rfl) (fun K hK => ?_); try go_simp; refine hK _ _ ?_; clear hK K) | (refine wpT_read rfl rfl rfl _ (by go_simp; rfl) (fun K hK => ?_); try go_simp; refine hK _ _ ?_; clear hK K))
  (first | (refine wpT_skip rfl (fun K hK => ?_); try go_simp; refine hK _ _ ?_; clear hK K) | (refine wpT_pure rfl rfl _ (fun w' hI => by unfold InvB at hI; go_simp; rfl) (fun K hK => ?_); try go_simp; refine hK _ _ ?_; clear hK K) | (refine wpT_pure rfl rfl _ (fun w' hI => by go_simp; rfl) (fun K hK => ?_); try go_simp; refine hK _ _ ?_; clear hK K) | (refine wpT_read rfl rfl rfl _ (by go_simp; rfl) (fun K hK => ?_); try go_simp; refine hK _ _ ?_; clear hK K))
  (first | (refine wpT_skip rfl (fun K hK => ?_); try go_simp; refine hK _ _ ?_; clear hK K) | (refine wpT_pure rfl rfl _ (fun w' hI => by unfold InvB at hI; go_simp; rfl) (fun K hK => ?_); try go_simp; refine hK _ _ ?_; clear hK K) | (refine wpT_pure rfl rfl _ (fun w' hI => by go_simp; rfl) (fun K hK => ?_); try go_simp; refine hK _ _ ?_; clear hK K) | (refine wpT_read rfl rfl rfl _ (by go_simp; rfl) (fun K hK => ?_); try go_simp; refine hK _ _ ?_; clear hK K))
  (first | (refine wpT_skip rfl (fun K hK => ?_); try go_simp; refine hK _ _ ?_; clear hK K) | (refine wpT_pure rfl rfl _ (fun w' hI => by unfold InvB at hI; go_simp; rfl) (fun K hK => ?_); try go_simp; refine hK _ _ ?_; clear hK K) | (refine wpT_pure rfl rfl _ (fun w' hI => by go_simp; rfl) (fun K hK => ?_); try go_simp; refine hK _ _ ?_; clear hK K) | (refine wpT_read rfl rfl rfl _ (by go_simp; rfl) (fun K hK => ?_); try go_simp; refine hK _ _ ?_; clear hK K))
  refine wpT_act rfl rfl rfl (fun K hK => ?_); go_simp
  refine (HP1.out _).mono ?_; rintro e x3 ⟨rfl, hb3⟩; try go_simp
  have HI3 := Lib.hid (HI2.out.below hb3 HS2.out); have HS3 := Lib.hid (Nat.le_trans HS2.out hb3.size)
  have HBB3 := Lib.hid (HBB2.out.trans (hb3.mono HBB2.out.size)); have HIS3 := Lib.hid (HIS2.out.below hb3)
  refine hK _ _ ⟨HI3.out, ?_⟩; clear hK K hb3
  (first | (refine wpT_skip rfl (fun K hK => ?_); try go_simp; refine hK _ _ ?_; clear hK K) | (refine wpT_pure rfl rfl _ (fun w' hI => by unfold InvB at hI; go_simp; rfl) (fun K hK => ?_); try go_simp; refine hK _ _ ?_; clear hK K) | (refine wpT_pure rfl rfl _ (fun w' hI => by go_simp; rfl) (fun K hK => ?_); try go_simp; refine hK _ _ ?_; clear hK K) | (refine wpT_read rfl rfl rfl _ (by go_simp; rfl) (fun K hK => ?_); try go_simp; refine hK _ _ ?_; clear hK K))
  (first | (refine wpT_skip rfl (fun K hK => ?_); try go_simp; refine hK _ _ ?_; clear hK K) | (refine wpT_pure rfl rfl _ (fun w' hI => by unfold InvB at hI; go_simp; rfl) (fun K hK => ?_); try go_simp; refine hK _ _ ?_; clear hK K) | (refine wpT_pure rfl rfl _ (fun w' hI => by go_simp; rfl) (fun K hK => ?_); try go_simp; refine hK _ _ ?_; clear hK K) | (refine wpT_read rfl rfl rfl _ (by go_simp; rfl) (fun K hK => ?_); try go_simp; refine hK _ _ ?_; clear hK K))
  (first | (refine wpT_skip rfl (fun K hK => ?_); try go_simp; refine hK _ _ ?_; clear hK K) | (refine wpT_pure rfl rfl _ (fun w' hI => by unfold InvB at hI; go_simp; rfl) (fun K hK => ?_); try go_simp; refine hK _ _ ?_; clear hK K) | (refine wpT_pure rfl rfl _ (fun w' hI => by go_simp; rfl) (fun K hK => ?_); try go_simp; refine hK _ _ ?_; clear hK K) | (refine wpT_read rfl rfl rfl _ (by go_simp; rfl) (fun K hK => ?_); try go_simp; refine hK _ _ ?_; clear hK K))
  (first | (refine wpT_skip rfl (fun K hK => ?_); try go_simp; refine hK _ _ ?_; clear hK K) | (refine wpT_pure rfl rfl _ (fun w' hI => by unfold InvB at hI; go_simp; rfl) (fun K hK => ?_); try go_simp; refine hK _ _ ?_; clear hK K) | (refine wpT_pure rfl rfl _ (fun w' hI => by go_simp; rfl) (fun K hK => ?_); try go_simp; refine hK _ _ ?_; clear hK K) | (refine wpT_read rfl rfl rfl _ (by go_simp; rfl) (fun K hK => ?_); try go_simp; refine hK _ _ ?_; clear hK K))
  (first | (refine wpT_skip rfl (fun K hK => ?_); try go_simp; refine hK _ _ ?_; clear hK K) | (refine wpT_pure rfl rfl _ (fun w' hI => by unfold InvB at hI; go_simp; rfl) (fun K hK => ?_); try go_simp; refine hK _ _ ?_; clear hK K) | (refine wpT_pure rfl rfl _ (fun w' hI => by go_simp; rfl) (fun K hK => ?_); try go_simp; refine hK _ _ ?_; clear hK K) | (refine wpT_read rfl rfl rfl _ (by go_simp; rfl) (fun K hK => ?_); try go_simp; refine hK _ _ ?_; clear hK K))
  refine wpT_act rfl rfl rfl (fun K hK => ?_); go_simp
  refine (HP2.out _).mono ?_; rintro e x4 ⟨rfl, hb4⟩; try go_simp
  have HI4 := Lib.hid (HI3.out.below hb4 HS3.out); have HS4 := Lib.hid (Nat.le_trans HS3.out hb4.size)
  have HBB4 := Lib.hid (HBB3.out.trans (hb4.mono HBB3.out.size)); have HIS4 := Lib.hid (HIS3.out.below hb4)
  refine hK _ _ ⟨HI4.out, ?_⟩; clear hK K hb4
  (first | (refine wpT_skip rfl (fun K hK => ?_); try go_simp; refine hK _ _ ?_; clear hK K) | (refine wpT_pure rfl rfl _ (fun w' hI => by unfold InvB at hI; go_simp; rfl) (fun K hK => ?_); try go_simp; refine hK _ _ ?_; clear hK K) | (refine wpT_pure rfl rfl _ (fun w' hI => by go_simp; rfl) (fun K hK => ?_); try go_simp; refine hK _ _ ?_; clear hK K) | (refine wpT_read rfl rfl rfl _ (by go_simp; rfl) (fun K hK => ?_); try go_simp; refine hK _ _ ?_; clear hK K))
  refine wpT_act rfl rfl rfl (fun K hK => ?_); go_simp
  refine (wsL (w.heap.size + 1) _ [] _ _ HIS4.out (by have := HXS.out; simp only [List.length_nil]; omega) HS4.out).mono ?_; rintro e x5 ⟨rfl, his5, hb5, _⟩; try go_simp
  have HI5 := Lib.hid (HI4.out.below hb5 (Nat.le_refl _)); have HS5 := Lib.hid (Nat.le_trans HS4.out hb5.size)
  have HBB5 := Lib.hid (HBB4.out.trans (hb5.mono (Nat.le_succ _)))
  rw [List.nil_append, HX.out] at his5
  have HIS5 := Lib.hid his5; clear his5
  refine hK _ _ ⟨HI5.out, ?_⟩; clear hK K hb5
  refine wpT_nil ?_
  have k3' : x5.cell? ⟨w.heap.size, 3, none⟩ = some (.slice (some ⟨g, o, none⟩) ms.length cap) := (HI5.out _ _ (Nat.lt_succ_self _)).trans k3
  clear k0 k1 k2 k3 hs1 hs2 hs3 hs4 hn1 hn2 hn3 hp1 hp2 hp3 hp4 hwl hwn HS1 HS2 HP1 HP2 HIS0 HIS1 HIS2 HIS3 HIS4 HI1 HI2 HI3 HI4 HI5 HX HXS
  go_wp2_with fail
  have hb16 : (ms.length : Int) ≤ 16 := by omega
  go_loopw [35] (fun x wr => ∃ k : Nat, k ≤ ms.length ∧ x = .int .i64 k ∧ Below w.heap.size w wr ∧ IsB (w.heap.size + 1) w1.heap.size (Lib.byteCells (accK ⟨svc, mth, lt, ms⟩ k)) wr) (fun x _ => ms.length - (intOf x).toNat)
  case atStart => exact ⟨0, Nat.zero_le _, rfl, HBB5.out, HIS5.out⟩
  case round =>
    obtain ⟨k, hk, rfl, hbw, hisw⟩ := hrel
    have HBW := Lib.hid hbw; have HISW := Lib.hid hisw
    by_cases hlt : k < ms.length
    · have hck := HC.out k hlt
      have hc4 : wr.cell? ⟨g, o + k * 2, none⟩ = some (.string ms[k].1) := (hbw.cell (p := ⟨g, o + k * 2, none⟩) hgl).trans hck.1
      have hc5 : wr.cell? ⟨g, o + k * 2 + 1, none⟩ = some (.string ms[k].2) := (hbw.cell (p := ⟨g, o + k * 2 + 1, none⟩) hgl).trans hck.2
      have HAS := Lib.hid (accK_succ ⟨svc, mth, lt, ms⟩ (k := k) hlt)
      have hal := HAL.out k (by show k ≤ ms.length; omega)
      have HLK := Lib.hid (show (accK ⟨svc, mth, lt, ms⟩ k).length ≤ 170000000000 by omega)
      obtain ⟨y1, y2⟩ := HZ.out.2.2 ms[k] (List.getElem_mem hlt)
      have HBN := Lib.hid (show w.heap.size + 1 ≤ wr.heap.size from Nat.le_of_lt (Nat.lt_of_le_of_lt hisw.here.1 hisw.here.2))
      have hne : wr.heap.size ≠ w1.heap.size := Nat.ne_of_gt hisw.here.2
      have HNE := Lib.hid hne
      have hl1 := sized_len ms[k].1; have hl2 := sized_len ms[k].2
      have HV1 := Lib.hid (fun w => sized_any ms[k].1 w (by omega)); have HV2 := Lib.hid (fun w => sized_any ms[k].2 w (by omega))
      have HMB := Lib.hid (show metaB ms[k] = sized ms[k].1 ++ sized ms[k].2 from rfl)
      have HAS2 := Lib.hid (show accK ⟨svc, mth, lt, ms⟩ (k + 1) = accK ⟨svc, mth, lt, ms⟩ k ++ (sized ms[k].1 ++ sized ms[k].2) from HAS.out)
      clear hbw hisw hck hal hne HAS HMB
      have hs1 := full_size (sized ms[k].1); have hs2 := full_size (sized ms[k].2)
      have hn1 : ¬ 9223372036854775807 < (sized ms[k].1).length + (sized ms[k].2).length := by omega
      have HXS := Lib.hid (show (⟨(sized ms[k].1).toArray⟩ ++ ⟨(sized ms[k].2).toArray⟩ : ByteArray).size ≤ 10000000000 by rw [ByteArray.size_append, hs1, hs2]; omega)
      have HX := Lib.hid (show (⟨(sized ms[k].1).toArray⟩ ++ ⟨(sized ms[k].2).toArray⟩ : ByteArray).data.toList = sized ms[k].1 ++ sized ms[k].2 by simp [ByteArray.data_append])
      generalize hA : sized ms[k].1 = A at *
      generalize hB : sized ms[k].2 = B at *
      clear hA hB y1 y2 hl1 hl2
      generalize hky : ms[k].1 = ky at *
      generalize hvl : ms[k].2 = vl at *
      clear hky hvl
      have HKM0 := Lib.hid (Bk.new wr MT #[.string ky, .string vl])
      have HBB6 := Lib.hid (HBW.out.alloc HBW.out.size (.cells #[.string ky, .string vl] MT))
      have HIS6 := Lib.hid (HISW.out.below ((Below.refl wr.heap.size wr).alloc (Nat.le_refl _) (.cells #[.string ky, .string vl] MT)))
      by_cases hk0 : k = 0
      · subst hk0
        have hc4' : wr.cell? ⟨g, o, none⟩ = some (.string ky) := by simpa using hc4
        have hc5' : wr.cell? ⟨g, o + 1, none⟩ = some (.string vl) := by simpa using hc5
        clear hc4 hc5
        go_wp2_with fail
        refine wp_region_T (fun W' => W'.cell? ⟨wr.heap.size, 0, none⟩ = some (.string ky) ∧ W'.cell? ⟨wr.heap.size, 1, none⟩ = some (.string vl)) kf4 (by kernel_rfl) (by kernel_rfl) ⟨HKM0.out.at_ 0 rfl, HKM0.out.at_ 1 rfl⟩ ?_
        (first | (refine wpT_skip rfl (fun K hK => ?_); try go_simp; refine hK _ _ ?_; clear hK K) | (refine wpT_pure rfl rfl _ (fun w' hI => by unfold InvB at hI; go_simp; rfl) (fun K hK => ?_); try go_simp; refine hK _ _ ?_; clear hK K) | (refine wpT_pure rfl rfl _ (fun w' hI => by go_simp; rfl) (fun K hK => ?_); try go_simp; refine hK _ _ ?_; clear hK K) | (refine wpT_read rfl rfl rfl _ (by go_simp; rfl) (fun K hK => ?_); try go_simp; refine hK _ _ ?_; clear hK K))
        (first | (refine wpT_skip rfl (fun K hK => ?_); try go_simp; refine hK _ _ ?_; clear hK K) | (refine wpT_pure rfl rfl _ (fun w' hI => by unfold InvB at hI; go_simp; rfl) (fun K hK => ?_); try go_simp; refine hK _ _ ?_; clear hK K) | (refine wpT_pure rfl rfl _ (fun w' hI => by go_simp; rfl) (fun K hK => ?_); try go_simp; refine hK _ _ ?_; clear hK K) | (refine wpT_read rfl rfl rfl _ (by go_simp; rfl) (fun K hK => ?_); try go_simp; refine hK _ _ ?_; clear hK K))
        refine wpT_act rfl rfl rfl (fun K hK => ?_); go_simp
        refine (HV1.out _).mono ?_; rintro e y7 ⟨rfl, hb7⟩; try go_simp
        have HKM7 := Lib.hid (Bk.keep (w := (wr.alloc (.cells #[.string ky, .string vl] MT)).drew) HKM0.out hb7)
        have HBC7 := Lib.hid ((HBB6.out.drew).trans (hb7.mono HBB6.out.size)); have HIC7 := Lib.hid (IsB.below (w := (wr.alloc (.cells #[.string ky, .string vl] MT)).drew) HIS6.out hb7)
        refine hK _ _ ⟨⟨HKM7.out.at_ 0 rfl, HKM7.out.at_ 1 rfl⟩, ?_⟩; clear hK K hb7
        (first | (refine wpT_skip rfl (fun K hK => ?_); try go_simp; refine hK _ _ ?_; clear hK K) | (refine wpT_pure rfl rfl _ (fun w' hI => by unfold InvB at hI; go_simp; rfl) (fun K hK => ?_); try go_simp; refine hK _ _ ?_; clear hK K) | (refine wpT_pure rfl rfl _ (fun w' hI => by go_simp; rfl) (fun K hK => ?_); try go_simp; refine hK _ _ ?_; clear hK K) | (refine wpT_read rfl rfl rfl _ (by go_simp; rfl) (fun K hK => ?_); try go_simp; refine hK _ _ ?_; clear hK K))
        (first | (refine wpT_skip rfl (fun K hK => ?_); try go_simp; refine hK _ _ ?_; clear hK K) | (refine wpT_pure rfl rfl _ (fun w' hI => by unfold InvB at hI; go_simp; rfl) (fun K hK => ?_); try go_simp; refine hK _ _ ?_; clear hK K) | (refine wpT_pure rfl rfl _ (fun w' hI => by go_simp; rfl) (fun K hK => ?_); try go_simp; refine hK _ _ ?_; clear hK K) | (refine wpT_read rfl rfl rfl _ (by go_simp; rfl) (fun K hK => ?_); try go_simp; refine hK _ _ ?_; clear hK K))
        refine wpT_act rfl rfl rfl (fun K hK => ?_); go_simp
        refine (HV2.out _).mono ?_; rintro e y8 ⟨rfl, hb8⟩; try go_simp
        have HKM8 := Lib.hid (HKM7.out.keep hb8)
        have HBC8 := Lib.hid ((HBC7.out).trans (hb8.mono HBC7.out.size)); have HIC8 := Lib.hid (HIC7.out.below hb8)
        refine hK _ _ ⟨⟨HKM8.out.at_ 0 rfl, HKM8.out.at_ 1 rfl⟩, ?_⟩; clear hK K hb8
        (first | (refine wpT_skip rfl (fun K hK => ?_); try go_simp; refine hK _ _ ?_; clear hK K) | (refine wpT_pure rfl rfl _ (fun w' hI => by unfold InvB at hI; go_simp; rfl) (fun K hK => ?_); try go_simp; refine hK _ _ ?_; clear hK K) | (refine wpT_pure rfl rfl _ (fun w' hI => by go_simp; rfl) (fun K hK => ?_); try go_simp; refine hK _ _ ?_; clear hK K) | (refine wpT_read rfl rfl rfl _ (by go_simp; rfl) (fun K hK => ?_); try go_simp; refine hK _ _ ?_; clear hK K))
        refine wpT_act rfl rfl rfl (fun K hK => ?_); go_simp
        refine (wsL (w.heap.size + 1) _ _ _ _ HIC8.out (by have := HXS.out; have := HLK.out; omega) (by have := HBN.out; have := HBC8.out.size; have := HKM8.out.here; omega)).mono ?_; rintro e y9 ⟨rfl, his9, hb9, hkp9⟩; try go_simp
        have HKM9 := Lib.hid (HKM8.out.kept hkp9 HNE.out (by decide))
        have HBC9 := Lib.hid (HBC8.out.trans (hb9.mono (Nat.le_succ _)))
        rw [HX.out, ← HAS2.out] at his9
        have HIC9 := Lib.hid his9; clear his9
        refine hK _ _ ⟨⟨HKM9.out.at_ 0 rfl, HKM9.out.at_ 1 rfl⟩, ?_⟩; clear hK K hb9 hkp9
        refine wpT_nil ?_
        go_wp2_with fail
        go_roundw
        case rel => exact ⟨0 + 1, hlt, by go_num, HBC9.out, HIC9.out⟩
        case measure => simp [intOf]; omega
      · skip
        go_wp2_with fail
        refine wp_region_T (fun W' => W'.cell? ⟨wr.heap.size, 0, none⟩ = some (.string ky) ∧ W'.cell? ⟨wr.heap.size, 1, none⟩ = some (.string vl)) kf4 (by kernel_rfl) (by kernel_rfl) ⟨HKM0.out.at_ 0 rfl, HKM0.out.at_ 1 rfl⟩ ?_
        (first | (refine wpT_skip rfl (fun K hK => ?_); try go_simp; refine hK _ _ ?_; clear hK K) | (refine wpT_pure rfl rfl _ (fun w' hI => by unfold InvB at hI; go_simp; rfl) (fun K hK => ?_); try go_simp; refine hK _ _ ?_; clear hK K) | (refine wpT_pure rfl rfl _ (fun w' hI => by go_simp; rfl) (fun K hK => ?_); try go_simp; refine hK _ _ ?_; clear hK K) | (refine wpT_read rfl rfl rfl _ (by go_simp; rfl) (fun K hK => ?_); try go_simp; refine hK _ _ ?_; clear hK K))
        (first | (refine wpT_skip rfl (fun K hK => ?_); try go_simp; refine hK _ _ ?_; clear hK K) | (refine wpT_pure rfl rfl _ (fun w' hI => by unfold InvB at hI; go_simp; rfl) (fun K hK => ?_); try go_simp; refine hK _ _ ?_; clear hK K) | (refine wpT_pure rfl rfl _ (fun w' hI => by go_simp; rfl) (fun K hK => ?_); try go_simp; refine hK _ _ ?_; clear hK K) | (refine wpT_read rfl rfl rfl _ (by go_simp; rfl) (fun K hK => ?_); try go_simp; refine hK _ _ ?_; clear hK K))
        refine wpT_act rfl rfl rfl (fun K hK => ?_); go_simp
        refine (HV1.out _).mono ?_; rintro e y7 ⟨rfl, hb7⟩; try go_simp
        have HKM7 := Lib.hid (Bk.keep (w := (wr.alloc (.cells #[.string ky, .string vl] MT)).drew) HKM0.out hb7)
        have HBC7 := Lib.hid ((HBB6.out.drew).trans (hb7.mono HBB6.out.size)); have HIC7 := Lib.hid (IsB.below (w := (wr.alloc (.cells #[.string ky, .string vl] MT)).drew) HIS6.out hb7)
        refine hK _ _ ⟨⟨HKM7.out.at_ 0 rfl, HKM7.out.at_ 1 rfl⟩, ?_⟩; clear hK K hb7
        (first | (refine wpT_skip rfl (fun K hK => ?_); try go_simp; refine hK _ _ ?_; clear hK K) | (refine wpT_pure rfl rfl _ (fun w' hI => by unfold InvB at hI; go_simp; rfl) (fun K hK => ?_); try go_simp; refine hK _ _ ?_; clear hK K) | (refine wpT_pure rfl rfl _ (fun w' hI => by go_simp; rfl) (fun K hK => ?_); try go_simp; refine hK _ _ ?_; clear hK K) | (refine wpT_read rfl rfl rfl _ (by go_simp; rfl) (fun K hK => ?_); try go_simp; refine hK _ _ ?_; clear hK K))
        (first | (refine wpT_skip rfl (fun K hK => ?_); try go_simp; refine hK _ _ ?_; clear hK K) | (refine wpT_pure rfl rfl _ (fun w' hI => by unfold InvB at hI; go_simp; rfl) (fun K hK => ?_); try go_simp; refine hK _ _ ?_; clear hK K) | (refine wpT_pure rfl rfl _ (fun w' hI => by go_simp; rfl) (fun K hK => ?_); try go_simp; refine hK _ _ ?_; clear hK K) | (refine wpT_read rfl rfl rfl _ (by go_simp; rfl) (fun K hK => ?_); try go_simp; refine hK _ _ ?_; clear hK K))
        refine wpT_act rfl rfl rfl (fun K hK => ?_); go_simp
        refine (HV2.out _).mono ?_; rintro e y8 ⟨rfl, hb8⟩; try go_simp
        have HKM8 := Lib.hid (HKM7.out.keep hb8)
        have HBC8 := Lib.hid ((HBC7.out).trans (hb8.mono HBC7.out.size)); have HIC8 := Lib.hid (HIC7.out.below hb8)
        refine hK _ _ ⟨⟨HKM8.out.at_ 0 rfl, HKM8.out.at_ 1 rfl⟩, ?_⟩; clear hK K hb8
        (first | (refine wpT_skip rfl (fun K hK => ?_); try go_simp; refine hK _ _ ?_; clear hK K) | (refine wpT_pure rfl rfl _ (fun w' hI => by unfold InvB at hI; go_simp; rfl) (fun K hK => ?_); try go_simp; refine hK _ _ ?_; clear hK K) | (refine wpT_pure rfl rfl _ (fun w' hI => by go_simp; rfl) (fun K hK => ?_); try go_simp; refine hK _ _ ?_; clear hK K) | (refine wpT_read rfl rfl rfl _ (by go_simp; rfl) (fun K hK => ?_); try go_simp; refine hK _ _ ?_; clear hK K))
        refine wpT_act rfl rfl rfl (fun K hK => ?_); go_simp
        refine (wsL (w.heap.size + 1) _ _ _ _ HIC8.out (by have := HXS.out; have := HLK.out; omega) (by have := HBN.out; have := HBC8.out.size; have := HKM8.out.here; omega)).mono ?_; rintro e y9 ⟨rfl, his9, hb9, hkp9⟩; try go_simp
        have HKM9 := Lib.hid (HKM8.out.kept hkp9 HNE.out (by decide))
        have HBC9 := Lib.hid (HBC8.out.trans (hb9.mono (Nat.le_succ _)))
        rw [HX.out, ← HAS2.out] at his9
        have HIC9 := Lib.hid his9; clear his9
        refine hK _ _ ⟨⟨HKM9.out.at_ 0 rfl, HKM9.out.at_ 1 rfl⟩, ?_⟩; clear hK K hb9 hkp9
        refine wpT_nil ?_
        go_wp2_with fail
        go_roundw
        case rel => exact ⟨k + 1, hlt, by go_num, HBC9.out, HIC9.out⟩
        case measure => simp [intOf]; omega
    · obtain rfl : k = ms.length := by omega
      have HL := Lib.hid (accK_all ⟨svc, mth, lt, ms⟩)
      have HISW2 := Lib.hid (show IsB (w.heap.size + 1) w1.heap.size (Lib.byteCells (headL ⟨svc, mth, lt, ms⟩)) wr by rw [← HL.out]; exact HISW.out)
      have HBN := Lib.hid (show w.heap.size + 1 ≤ wr.heap.size from Nat.le_of_lt (Nat.lt_of_le_of_lt hisw.here.1 hisw.here.2))
      clear hbw hisw
      go_wp2_with fail
      refine (str_any (w.heap.size + 1) _ _ _ HISW2.out HBN.out).mono ?_; rintro e z1 ⟨rfl, _, hbz, _⟩
      go_wp2_with fail
      go_ret2
      exact ⟨rfl, HBW.out.trans (hbz.mono (Nat.le_succ _))⟩
set_option maxHeartbeats 4000000 in
set_option maxRecDepth 100000 in
theorem head_nil (svc mth : ByteArray) (late : Int) (a : Option Addr) (cap : Nat) (w : World) (hg : MLen w) (hz : HdSz ⟨svc, mth, late, []⟩) (he : headE ⟨svc, mth, late, []⟩ = 0) :
    Calls Tryd.prog 63 #[.agg #[.string svc, .string mth, .int .i64 late, .slice a 0 cap]] w fun e w' => e = .returned (.tuple #[.string ⟨(headL ⟨svc, mth, late, []⟩).toArray⟩, .int .i64 0]) ∧ Below w.heap.size w w' := by
  obtain ⟨hl1, hl2, hl3⟩ := headE_ok he
  have hl1 : 0 ≤ late := hl1
  have hl2 : late ≤ 1099511627776 := hl2
  obtain ⟨lt, rfl⟩ : ∃ n : Nat, late = n := ⟨late.toNat, by omega⟩
  have HE := Lib.hid (fun w hg => int_ok he (headed_nil svc mth lt a cap w hg hz))
  have hp1 := sized_len svc; have hp2 := sized_len mth; have hp3 := putL_len lt; have hp4 := putL_len 0
  have z1 : svc.size < 4294967281 := hz.1
  have z2 : mth.size < 4294967281 := hz.2.1
  have HZ := Lib.hid hz
  have HS1 := Lib.hid (fun w => sized_any svc w (by omega)); have HS2 := Lib.hid (fun w => sized_any mth w (by omega))
  have HP1 := Lib.hid (fun w => put_any lt w (by omega)); have HP2 := Lib.hid (fun w => put_any 0 w (by omega))
  have HB0 := Lib.hid (show Below w.heap.size w (w.alloc (.cells #[.string svc, .string mth, .int .i64 lt, .slice a 0 cap] HT)) from (Below.refl _ _).alloc (Nat.le_refl _) _)
  have HK0 := Lib.hid (Bk.new w HT #[.string svc, .string mth, .int .i64 lt, .slice a 0 cap])
  have HG0 := Lib.hid (hg.below HB0.out)
  have hwl : IntKind.u64.wrap (lt : Int) = lt := by rw [IntKind.wrap_u64]; omega
  clear hg hz he hl1 hl2 z1 z2
  go_enter Tryd.func63, Tryd.ntmps63
  go_wp2_with fail
  refine (HE.out _ HG0.out).mono ?_; rintro e w1 ⟨rfl, hb1⟩
  have HB1 := Lib.hid (HB0.out.trans (hb1.mono HB0.out.size)); have HK1 := Lib.hid (HK0.out.keep hb1); clear hb1
  go_wp2_with fail
  have HK2 := Lib.hid (HK1.out.more (.cells #[.pointer none, .slice none 0 0] 128))
  have k0 : (w1.alloc (.cells #[.pointer none, .slice none 0 0] 128)).cell? ⟨w.heap.size, 0, none⟩ = some (.string svc) := HK2.out.at_ 0 rfl
  have k1 : (w1.alloc (.cells #[.pointer none, .slice none 0 0] 128)).cell? ⟨w.heap.size, 1, none⟩ = some (.string mth) := HK2.out.at_ 1 rfl
  have k2 : (w1.alloc (.cells #[.pointer none, .slice none 0 0] 128)).cell? ⟨w.heap.size, 2, none⟩ = some (.int .i64 lt) := HK2.out.at_ 2 rfl
  have k3 : (w1.alloc (.cells #[.pointer none, .slice none 0 0] 128)).cell? ⟨w.heap.size, 3, none⟩ = some (.slice a 0 cap) := HK2.out.at_ 3 rfl
  have HN0 := Lib.hid (show w.heap.size + 1 ≤ (w1.alloc (.cells #[.pointer none, .slice none 0 0] 128)).heap.size by have := HK1.out.here; simp; omega)
  have HBB0 := Lib.hid (HB1.out.alloc HB1.out.size (.cells #[.pointer none, .slice none 0 0] 128))
  have HIS0 := Lib.hid (IsB.fresh w1 (w.heap.size + 1) HK1.out.here)
  have HBL := Lib.hid (show w.heap.size + 1 ≤ w1.heap.size from HK1.out.here)
  have HAL := Lib.hid (accK_len ⟨svc, mth, lt, []⟩ HZ.out)
  have HA0 := Lib.hid (show accK ⟨svc, mth, lt, []⟩ 0 = sized svc ++ sized mth ++ putL lt ++ putL 0 by unfold accK; simp)
  have hs1 := full_size (sized svc); have hs2 := full_size (sized mth); have hs3 := full_size (putL lt); have hs4 := full_size (putL 0)
  have z1 : svc.size < 4294967281 := HZ.out.1
  have z2 : mth.size < 4294967281 := HZ.out.2.1
  have hn1 : ¬ 9223372036854775807 < (sized svc).length + (sized mth).length := by omega
  have hn2 : ¬ 9223372036854775807 < (sized svc).length + (sized mth).length + (putL lt).length := by omega
  have hn3 : ¬ 9223372036854775807 < (sized svc).length + (sized mth).length + (putL lt).length + (putL 0).length := by omega
  have HX := Lib.hid (show (⟨(sized svc).toArray⟩ ++ ⟨(sized mth).toArray⟩ ++ ⟨(putL lt).toArray⟩ ++ ⟨(putL 0).toArray⟩ : ByteArray).data.toList = accK ⟨svc, mth, lt, []⟩ 0 by rw [HA0.out]; simp [ByteArray.data_append])
  have HXS := Lib.hid (show (⟨(sized svc).toArray⟩ ++ ⟨(sized mth).toArray⟩ ++ ⟨(putL lt).toArray⟩ ++ ⟨(putL 0).toArray⟩ : ByteArray).size ≤ 10000000000 by rw [ByteArray.size_append, ByteArray.size_append, ByteArray.size_append, hs1, hs2, hs3, hs4]; omega)
  clear z1 z2
  generalize hAA : sized svc = A at *
  generalize hBB : sized mth = B at *
  generalize hCC : putL lt = C at *
  generalize hDD : putL 0 = D at *
  clear hAA hBB hCC hDD
  refine wp_region_T (InvB (w.heap.size + 1) (w1.alloc (.cells #[.pointer none, .slice none 0 0] 128))) kf4 (by kernel_rfl) (by kernel_rfl) (InvB.refl _ _).drew ?_
  (first | (refine wpT_skip rfl (fun K hK => ?_); try go_simp; refine hK _ _ ?_; clear hK K) | (refine wpT_pure rfl rfl _ (fun w' hI => by unfold InvB at hI; go_simp; rfl) (fun K hK => ?_); try go_simp; refine hK _ _ ?_; clear hK K) | (refine wpT_pure rfl rfl _ (fun w' hI => by go_simp; rfl) (fun K hK => ?_); try go_simp; refine hK _ _ ?_; clear hK K) | (refine wpT_read rfl rfl rfl _ (by go_simp; rfl) (fun K hK => ?_); try go_simp; refine hK _ _ ?_; clear hK K))
  (first | (refine wpT_skip rfl (fun K hK => ?_); try go_simp; refine hK _ _ ?_; clear hK K) | (refine wpT_pure rfl rfl _ (fun w' hI => by unfold InvB at hI; go_simp; rfl) (fun K hK => ?_); try go_simp; refine hK _ _ ?_; clear hK K) | (refine wpT_pure rfl rfl _ (fun w' hI => by go_simp; rfl) (fun K hK => ?_); try go_simp; refine hK _ _ ?_; clear hK K) | (refine wpT_read rfl rfl rfl _ (by go_simp; rfl) (fun K hK => ?_); try go_simp; refine hK _ _ ?_; clear hK K))
  refine wpT_act rfl rfl rfl (fun K hK => ?_); go_simp
  refine (HS1.out _).mono ?_; rintro e x1 ⟨rfl, hb1⟩; try go_simp
  have HI1 := Lib.hid ((InvB.refl _ _).drew.below hb1 (show w.heap.size + 1 ≤ _ from HN0.out)); have HS1 := Lib.hid (Nat.le_trans HN0.out hb1.size)
  have HBB1 := Lib.hid (HBB0.out.drew.trans (hb1.mono (show w.heap.size ≤ _ from Nat.le_trans (Nat.le_succ _) HN0.out))); have HIS1 := Lib.hid (IsB.below (w := (w1.alloc (.cells #[.pointer none, .slice none 0 0] 128)).drew) HIS0.out hb1)
  refine hK _ _ ⟨HI1.out, ?_⟩; clear hK K hb1
  (first | (refine wpT_skip rfl (fun K hK => ?_); try go_simp; refine hK _ _ ?_; clear hK K) | (refine wpT_pure rfl rfl _ (fun w' hI => by unfold InvB at hI; go_simp; rfl) (fun K hK => ?_); try go_simp; refine hK _ _ ?_; clear hK K) | (refine wpT_pure rfl rfl _ (fun w' hI => by go_simp; rfl) (fun K hK => ?_); try go_simp; refine hK _ _ ?_; clear hK K) | (refine wpT_read rfl rfl rfl _ (by go_simp; rfl) (fun K hK => ?_); try go_simp; refine hK _ _ ?_; clear hK K))
  (first | (refine wpT_skip rfl (fun K hK => ?_); try go_simp; refine hK _ _ ?_; clear hK K) | (refine wpT_pure rfl rfl _ (fun w' hI => by unfold InvB at hI; go_simp; rfl) (fun K hK => ?_); try go_simp; refine hK _ _ ?_; clear hK K) | (refine wpT_pure rfl rfl _ (fun w' hI => by go_simp; rfl) (fun K hK => ?_); try go_simp; refine hK _ _ ?_; clear hK K) | (refine wpT_read rfl rfl rfl _ (by go_simp; rfl) (fun K hK => ?_); try go_simp; refine hK _ _ ?_; clear hK K))
  refine wpT_act rfl rfl rfl (fun K hK => ?_); go_simp
  refine (HS2.out _).mono ?_; rintro e x2 ⟨rfl, hb2⟩; try go_simp
  have HI2 := Lib.hid (HI1.out.below hb2 HS1.out); have HS2 := Lib.hid (Nat.le_trans HS1.out hb2.size)
  have HBB2 := Lib.hid (HBB1.out.trans (hb2.mono HBB1.out.size)); have HIS2 := Lib.hid (HIS1.out.below hb2)
  refine hK _ _ ⟨HI2.out, ?_⟩; clear hK K hb2
  (first | (refine wpT_skip rfl (fun K hK => ?_); try go_simp; refine hK _ _ ?_; clear hK K) | (refine wpT_pure rfl rfl _ (fun w' hI => by unfold InvB at hI; go_simp; rfl) (fun K hK => ?_); try go_simp; refine hK _ _ ?_; clear hK K) | (refine wpT_pure rfl rfl _ (fun w' hI => by go_simp; rfl) (fun K hK => ?_); try go_simp; refine hK _ _ ?_; clear hK K) | (refine wpT_read rfl rfl rfl _ (by go_simp; rfl) (fun K hK => ?_); try go_simp; refine hK _ _ ?_; clear hK K))
  (first | (refine wpT_skip rfl (fun K hK => ?_); try go_simp; refine hK _ _ ?_; clear hK K) | (refine wpT_pure rfl rfl _ (fun w' hI => by unfold InvB at hI; go_simp; rfl) (fun K hK => ?_); try go_simp; refine hK _ _ ?_; clear hK K) | (refine wpT_pure rfl rfl _ (fun w' hI => by go_simp; rfl) (fun K hK => ?_); try go_simp; refine hK _ _ ?_; clear hK K) | (refine wpT_read rfl rfl rfl _ (by go_simp; rfl) (fun K hK => ?_); try go_simp; refine hK _ _ ?_; clear hK K))
  (first | (refine wpT_skip rfl (fun K hK => ?_); try go_simp; refine hK _ _ ?_; clear hK K) | (refine wpT_pure rfl rfl _ (fun w' hI => by unfold InvB at hI; go_simp; rfl) (fun K hK => ?_); try go_simp; refine hK _ _ ?_; clear hK K) | (refine wpT_pure rfl rfl _ (fun w' hI => by go_simp; rfl) (fun K hK => ?_); try go_simp; refine hK _ _ ?_; clear hK K) | (refine wpT_read rfl rfl rfl _ (by go_simp; rfl) (fun K hK => ?_); try go_simp; refine hK _ _ ?_; clear hK K))
  (first | (refine wpT_skip rfl (fun K hK => ?_); try go_simp; refine hK _ _ ?_; clear hK K) | (refine wpT_pure rfl rfl _ (fun w' hI => by unfold InvB at hI; go_simp; rfl) (fun K hK => ?_); try go_simp; refine hK _ _ ?_; clear hK K) | (refine wpT_pure rfl rfl _ (fun w' hI => by go_simp; rfl) (fun K hK => ?_); try go_simp; refine hK _ _ ?_; clear hK K) | (refine wpT_read rfl rfl rfl _ (by go_simp; rfl) (fun K hK => ?_); try go_simp; refine hK _ _ ?_; clear hK K))
  refine wpT_act rfl rfl rfl (fun K hK => ?_); go_simp
  refine (HP1.out _).mono ?_; rintro e x3 ⟨rfl, hb3⟩; try go_simp
  have HI3 := Lib.hid (HI2.out.below hb3 HS2.out); have HS3 := Lib.hid (Nat.le_trans HS2.out hb3.size)
  have HBB3 := Lib.hid (HBB2.out.trans (hb3.mono HBB2.out.size)); have HIS3 := Lib.hid (HIS2.out.below hb3)
  refine hK _ _ ⟨HI3.out, ?_⟩; clear hK K hb3
  (first | (refine wpT_skip rfl (fun K hK => ?_); try go_simp; refine hK _ _ ?_; clear hK K) | (refine wpT_pure rfl rfl _ (fun w' hI => by unfold InvB at hI; go_simp; rfl) (fun K hK => ?_); try go_simp; refine hK _ _ ?_; clear hK K) | (refine wpT_pure rfl rfl _ (fun w' hI => by go_simp; rfl) (fun K hK => ?_); try go_simp; refine hK _ _ ?_; clear hK K) | (refine wpT_read rfl rfl rfl _ (by go_simp; rfl) (fun K hK => ?_); try go_simp; refine hK _ _ ?_; clear hK K))
  (first | (refine wpT_skip rfl (fun K hK => ?_); try go_simp; refine hK _ _ ?_; clear hK K) | (refine wpT_pure rfl rfl _ (fun w' hI => by unfold InvB at hI; go_simp; rfl) (fun K hK => ?_); try go_simp; refine hK _ _ ?_; clear hK K) | (refine wpT_pure rfl rfl _ (fun w' hI => by go_simp; rfl) (fun K hK => ?_); try go_simp; refine hK _ _ ?_; clear hK K) | (refine wpT_read rfl rfl rfl _ (by go_simp; rfl) (fun K hK => ?_); try go_simp; refine hK _ _ ?_; clear hK K))
  (first | (refine wpT_skip rfl (fun K hK => ?_); try go_simp; refine hK _ _ ?_; clear hK K) | (refine wpT_pure rfl rfl _ (fun w' hI => by unfold InvB at hI; go_simp; rfl) (fun K hK => ?_); try go_simp; refine hK _ _ ?_; clear hK K) | (refine wpT_pure rfl rfl _ (fun w' hI => by go_simp; rfl) (fun K hK => ?_); try go_simp; refine hK _ _ ?_; clear hK K) | (refine wpT_read rfl rfl rfl _ (by go_simp; rfl) (fun K hK => ?_); try go_simp; refine hK _ _ ?_; clear hK K))
  (first | (refine wpT_skip rfl (fun K hK => ?_); try go_simp; refine hK _ _ ?_; clear hK K) | (refine wpT_pure rfl rfl _ (fun w' hI => by unfold InvB at hI; go_simp; rfl) (fun K hK => ?_); try go_simp; refine hK _ _ ?_; clear hK K) | (refine wpT_pure rfl rfl _ (fun w' hI => by go_simp; rfl) (fun K hK => ?_); try go_simp; refine hK _ _ ?_; clear hK K) | (refine wpT_read rfl rfl rfl _ (by go_simp; rfl) (fun K hK => ?_); try go_simp; refine hK _ _ ?_; clear hK K))
  (first | (refine wpT_skip rfl (fun K hK => ?_); try go_simp; refine hK _ _ ?_; clear hK K) | (refine wpT_pure rfl rfl _ (fun w' hI => by unfold InvB at hI; go_simp; rfl) (fun K hK => ?_); try go_simp; refine hK _ _ ?_; clear hK K) | (refine wpT_pure rfl rfl _ (fun w' hI => by go_simp; rfl) (fun K hK => ?_); try go_simp; refine hK _ _ ?_; clear hK K) | (refine wpT_read rfl rfl rfl _ (by go_simp; rfl) (fun K hK => ?_); try go_simp; refine hK _ _ ?_; clear hK K))
  refine wpT_act rfl rfl rfl (fun K hK => ?_); go_simp
  refine (HP2.out _).mono ?_; rintro e x4 ⟨rfl, hb4⟩; try go_simp
  have HI4 := Lib.hid (HI3.out.below hb4 HS3.out); have HS4 := Lib.hid (Nat.le_trans HS3.out hb4.size)
  have HBB4 := Lib.hid (HBB3.out.trans (hb4.mono HBB3.out.size)); have HIS4 := Lib.hid (HIS3.out.below hb4)
  refine hK _ _ ⟨HI4.out, ?_⟩; clear hK K hb4
  (first | (refine wpT_skip rfl (fun K hK => ?_); try go_simp; refine hK _ _ ?_; clear hK K) | (refine wpT_pure rfl rfl _ (fun w' hI => by unfold InvB at hI; go_simp; rfl) (fun K hK => ?_); try go_simp; refine hK _ _ ?_; clear hK K) | (refine wpT_pure rfl rfl _ (fun w' hI => by go_simp; rfl) (fun K hK => ?_); try go_simp; refine hK _ _ ?_; clear hK K) | (refine wpT_read rfl rfl rfl _ (by go_simp; rfl) (fun K hK => ?_); try go_simp; refine hK _ _ ?_; clear hK K))
  refine wpT_act rfl rfl rfl (fun K hK => ?_); go_simp
  refine (wsL (w.heap.size + 1) _ [] _ _ HIS4.out (by have := HXS.out; simp only [List.length_nil]; omega) HS4.out).mono ?_; rintro e x5 ⟨rfl, his5, hb5, _⟩; try go_simp
  have HI5 := Lib.hid (HI4.out.below hb5 (Nat.le_refl _)); have HS5 := Lib.hid (Nat.le_trans HS4.out hb5.size)
  have HBB5 := Lib.hid (HBB4.out.trans (hb5.mono (Nat.le_succ _)))
  rw [List.nil_append, HX.out] at his5
  have HIS5 := Lib.hid his5; clear his5
  refine hK _ _ ⟨HI5.out, ?_⟩; clear hK K hb5
  refine wpT_nil ?_
  have k3' : x5.cell? ⟨w.heap.size, 3, none⟩ = some (.slice a 0 cap) := (HI5.out _ _ (Nat.lt_succ_self _)).trans k3
  clear k0 k1 k2 k3 hs1 hs2 hs3 hs4 hn1 hn2 hn3 hp1 hp2 hp3 hp4 hwl HS1 HS2 HP1 HP2 HIS0 HIS1 HIS2 HIS3 HIS4 HI1 HI2 HI3 HI4 HI5 HX HXS
  go_wp2_with fail
  refine wp_loop_rounds 1 ?_
  rw [rounds_succ]
  have HL := Lib.hid (accK_all ⟨svc, mth, lt, []⟩)
  have HISW2 := Lib.hid (show IsB (w.heap.size + 1) w1.heap.size (Lib.byteCells (headL ⟨svc, mth, lt, []⟩)) x5 by rw [← HL.out]; exact HIS5.out)
  go_wp2_with fail
  refine (str_any (w.heap.size + 1) _ _ _ HISW2.out HS5.out).mono ?_; rintro e z1 ⟨rfl, _, hbz, _⟩
  go_wp2_with fail
  go_ret2
  exact ⟨rfl, HBB5.out.trans (hbz.mono (Nat.le_succ _))⟩
theorem head_bad (h : HdV) (v : Value) (w : World) (hg : MLen w) (hm : MsIn w v h.metas) (hz : HdSz h) (he : headE h ≠ 0) :
    Calls Tryd.prog 63 #[.agg (hcells h v)] w fun e w' => e = .returned (.tuple #[.string ⟨#[]⟩, .int .i64 (headE h)]) ∧ Below w.heap.size w w' := by
  have HB0 := Lib.hid (show Below w.heap.size w (w.alloc (.cells (hcells h v) HT)) from (Below.refl _ _).alloc (Nat.le_refl _) _)
  have HC := Lib.hid (headed_any h v (w.alloc (.cells (hcells h v) HT)) (hg.below HB0.out) (hm.below HB0.out) hz)
  obtain ⟨svc, mth, late, ms⟩ := h
  generalize headE ⟨svc, mth, late, ms⟩ = E at *
  obtain ⟨q1, q2⟩ := byte_eq he
  clear he hm hg
  go_enter Tryd.func63, Tryd.ntmps63
  go_wp2_with fail
  refine (HC.out).mono ?_; rintro e w1 ⟨rfl, hb1⟩
  go_wp2_with fail
  go_ret2
  exact ⟨rfl, HB0.out.trans (hb1.mono HB0.out.size)⟩
theorem head_any (h : HdV) (v : Value) (w : World) (hg : MLen w) (hm : MsIn w v h.metas) (hz : HdSz h) :
    Calls Tryd.prog 63 #[.agg (hcells h v)] w fun e w' => e = .returned (.tuple #[.string ⟨(headW h).bytes.toArray⟩, .int .i64 (headW h).err]) ∧ Below w.heap.size w w' := by
  by_cases he : headE h = 0
  · rw [headW_good he]
    obtain ⟨svc, mth, late, ms⟩ := h
    obtain ⟨a, cap, rfl, hcs⟩ := hm
    cases ms with
    | nil => exact head_nil svc mth late a cap w hg hz he
    | cons m r =>
      obtain ⟨g, o, rfl, hgl, hc⟩ := hcs (by simp)
      exact head_some svc mth late (m :: r) g o cap w hg hgl hc hz he
  · rw [headW_bad he]
    exact head_bad h v w hg hm hz he
end Go.Proofs.YtmdkfbmpenohiaaDoor
