/- Methods, opened. -/
import Derived.Test.YtngieldaebnffaaDoorNote
namespace Go.Proofs.YtngieldaebnffaaDoor.Y
open Go.RowKit
theorem note_row {B : Bool} {w : World} {n : Nat} {cs : List Value} (h : okT tab B w (n + 3) 72 cs) : ∃ v : NV, cs = [.string (v).nm, .int .i64 (v).k, .int .u64 (v).b, .string (v).t, .slice (v).x0 (v).n0 (v).c0, .slice (v).x1 (v).n1 (v).c1, .slice (v).x2 (v).n2 (v).c2, .slice (v).x3 (v).n3 (v).c3] ∧ True := by
  obtain ⟨hl, hf⟩ := okT_row rfl h
  match cs, hl with
  | [c0, c1, c2, c3, c4, c5, c6, c7], _ =>
    obtain ⟨s0, e0, _⟩ := okT_str rfl (hf 0 0 9 _ rfl rfl)
    obtain rfl := (List.cons.inj e0).1
    obtain ⟨_, hg⟩ := okT_row rfl (hf 1 1 60 _ rfl rfl)
    obtain ⟨k, e1, _⟩ := okT_int rfl (hg 0 0 3 _ rfl rfl)
    obtain rfl := (List.cons.inj e1).1
    obtain ⟨b, e2, _⟩ := okT_int rfl (hg 1 1 54 _ rfl rfl)
    obtain rfl := (List.cons.inj e2).1
    obtain ⟨s, e3, _⟩ := okT_str rfl (hg 2 2 9 _ rfl rfl)
    obtain rfl := (List.cons.inj e3).1
    obtain ⟨x0, n0, p0, e4, _⟩ := okT_slc rfl (hg 3 3 55 _ rfl rfl)
    obtain rfl := (List.cons.inj e4).1
    obtain ⟨x1, n1, p1, e5, _⟩ := okT_slc rfl (hg 4 4 56 _ rfl rfl)
    obtain rfl := (List.cons.inj e5).1
    obtain ⟨x2, n2, p2, e6, _⟩ := okT_slc rfl (hg 5 5 57 _ rfl rfl)
    obtain rfl := (List.cons.inj e6).1
    obtain ⟨x3, n3, p3, e7, _⟩ := okT_slc rfl (hg 6 6 58 _ rfl rfl)
    obtain rfl := (List.cons.inj e7).1
    exact ⟨⟨s0, k, b, s, x0, n0, p0, x1, n1, p1, x2, n2, p2, x3, n3, p3⟩, rfl, trivial⟩
theorem meth_row {B : Bool} {w : World} {n : Nat} {cs : List Value} (h : okT tab B w (n + 5) 34 cs) : ∃ (s1 s2 s3 : ByteArray) (sh : Int) (l : List NV) (x : Option Addr) (cap : Nat), cs = [.string s1, .string s2, .string s3, .int .i64 sh, .slice x l.length cap] ∧ NtIn w x l ∧ l.length ≤ maxLen ∧ (B = true → s1.size ≤ 140737488351232) := by
  obtain ⟨hl, hf⟩ := okT_row rfl h
  match cs, hl with
  | [c0, c1, c2, c3, c4], _ =>
    obtain ⟨s0, e0, hz0⟩ := okT_str rfl (hf 0 0 9 _ rfl rfl)
    obtain rfl := (List.cons.inj e0).1
    obtain ⟨s1, e1, _⟩ := okT_str rfl (hf 1 1 9 _ rfl rfl)
    obtain rfl := (List.cons.inj e1).1
    obtain ⟨s2, e2, _⟩ := okT_str rfl (hf 2 2 9 _ rfl rfl)
    obtain rfl := (List.cons.inj e2).1
    obtain ⟨k, e3, _⟩ := okT_int rfl (hf 3 3 3 _ rfl rfl)
    obtain rfl := (List.cons.inj e3).1
    obtain ⟨x, cap, l, e4, hlen, _, hr, _⟩ := okT_rows (fun v : NV => [.string (v).nm, .int .i64 (v).k, .int .u64 (v).b, .string (v).t, .slice (v).x0 (v).n0 (v).c0, .slice (v).x1 (v).n1 (v).c1, .slice (v).x2 (v).n2 (v).c2, .slice (v).x3 (v).n3 (v).c3]) (fun _ => True) rfl rfl rfl (fun cs' h => note_row h) (hf 4 4 28 _ rfl rfl)
    obtain rfl := (List.cons.inj e4).1
    exact ⟨s0, s1, s2, k, l, x, cap, rfl, hr, hlen, hz0⟩
end Go.Proofs.YtngieldaebnffaaDoor.Y
