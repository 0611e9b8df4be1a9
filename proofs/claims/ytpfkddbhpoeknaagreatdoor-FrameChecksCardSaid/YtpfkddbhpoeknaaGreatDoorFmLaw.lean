/- Frames, plain: what Read and Split answer; what is written is read, whatever follows; where bytes may be cut. No program in sight. -/
import Derived.Test.YtpfkddbhpoeknaaGreatDoorHdLaw
import Derived.Test.YtpfkddbhpoeknaaGreatDoorSealLaw
namespace Go.Proofs.YtpfkddbhpoeknaaGreatDoor
open Go.RowKit
structure RdV where
  frame : FrV
  n : Nat
  err : Int
def frZero : FrV := ⟨0, 0, 0, ⟨#[]⟩⟩
def rdErr (e : Int) : RdV := ⟨frZero, 0, e⟩
def frL (f : FrV) : List UInt8 := UInt8.ofNat f.kind.toNat :: (putL f.strm.toNat ++ (putL f.num.toNat ++ (putL f.data.size ++ f.data.data.toList)))
def frB (f : FrV) : ByteArray := sealB ⟨(frL f).toArray⟩
def rdFrame (l : List UInt8) (f : FrV) (stop : Nat) : RdV :=
  if frameE f = 4 then rdErr 5 else if frameE f ≠ 0 then rdErr (frameE f) else if frB f = ⟨(l.take stop).toArray⟩ then ⟨f, stop, 0⟩ else rdErr 5
def rdBody (l : List UInt8) (t u1 u2 u3 : Nat) : RdV :=
  if 16384 < u3 then rdErr 3 else if l.length < t + u3 + 4 then rdErr 4 else if (openB ⟨(l.take (t + u3 + 4)).toArray⟩).2 ≠ 0 then rdErr 25
  else if 4294967295 < u1 ∨ 4294967295 < u2 then rdErr 6 else rdFrame l ⟨((l.headD 0).toNat : Int), u1, u2, ⟨((l.drop t).take u3).toArray⟩⟩ (t + u3 + 4)
def rdStep (l : List UInt8) (t : Nat) (k : Nat → Nat → RdV) : RdV := if (takeL (l.drop t)).2.2 = 0 then k (takeL (l.drop t)).1 (t + (takeL (l.drop t)).2.1) else rdErr (takeL (l.drop t)).2.2
def readL (l : List UInt8) : RdV := if l = [] then rdErr 4 else rdStep l 1 fun u1 a1 => rdStep l a1 fun u2 a2 => rdStep l a2 fun u3 a3 => rdBody l a3 u1 u2 u3
structure SpV where
  frames : List FrV
  rest : List UInt8
  err : Int
def splitF : Nat → List UInt8 → List FrV → SpV
  | 0, l, acc => ⟨acc, l, 0⟩
  | k + 1, l, acc => if (readL l).err = 0 then splitF k (l.drop (readL l).n) (acc ++ [(readL l).frame]) else if (readL l).err = 4 then ⟨acc, l, 0⟩ else ⟨[], [], (readL l).err⟩
def splitL (l : List UInt8) : SpV := splitF (l.length + 1) l []

theorem take_app6 : ∀ (k : Nat) (l : List UInt8) (n a : Nat) (r : List UInt8), takeF k l n a = (0, 0, 6) → takeF k (l ++ r) n a = (0, 0, 6)
  | 0, _, _, _, _, _ => by simp [takeF]
  | _ + 1, [], _, _, _, h => by simp [takeF] at h
  | k + 1, c :: l, n, a, r, h => by
    rw [List.cons_append]
    unfold takeF at h ⊢
    split at h
    · rename_i h1; rw [if_pos h1]
    · rename_i h1
      rw [if_neg h1]
      split at h
      · simp at h
      · rename_i h2; rw [if_neg h2]; exact take_app6 k l _ _ r h
theorem takeL_app {l : List UInt8} (r : List UInt8) (h : (takeL l).2.2 ≠ 4) : takeL (l ++ r) = takeL l := by
  rcases takeL_err l with h0 | h4 | h6
  · have e : takeL l = ((takeL l).1, (takeL l).2.1, 0) := by rw [← h0]
    rw [e]; exact take_app 10 l 0 0 _ _ r e
  · rw [h4] at h; exact absurd rfl h
  · rw [h6]; exact take_app6 10 l 0 0 r h6
theorem rdStep_app {p q : List UInt8} {t : Nat} {k k' : Nat → Nat → RdV} (ht : t ≤ p.length) (hk : ∀ u a, a ≤ p.length → (k u a).err ≠ 4 → k' u a = k u a) (h : (rdStep p t k).err ≠ 4) :
    rdStep (p ++ q) t k' = rdStep p t k := by
  have hd : (p ++ q).drop t = p.drop t ++ q := by rw [List.drop_append_of_le_length ht]
  unfold rdStep at h ⊢
  rw [hd]
  by_cases h0 : (takeL (p.drop t)).2.2 = 0
  · rw [takeL_app q (by rw [h0]; decide)]
    rw [if_pos h0] at h ⊢
    rw [if_pos h0]
    have e : takeL (p.drop t) = ((takeL (p.drop t)).1, (takeL (p.drop t)).2.1, 0) := by rw [← h0]
    have := (takeL_ok e).2.2
    rw [List.length_drop] at this
    exact hk _ _ (by omega) h
  · rw [if_neg h0] at h
    rw [takeL_app q h, if_neg h0, if_neg h0]
theorem rdFrame_app {p : List UInt8} (q : List UInt8) (f : FrV) {s : Nat} (hs : s ≤ p.length) : rdFrame (p ++ q) f s = rdFrame p f s := by
  unfold rdFrame; rw [List.take_append_of_le_length hs]
theorem rdBody_app {p q : List UInt8} (hp : p ≠ []) {t u1 u2 u3 : Nat} (h : (rdBody p t u1 u2 u3).err ≠ 4) : rdBody (p ++ q) t u1 u2 u3 = rdBody p t u1 u2 u3 := by
  unfold rdBody at h ⊢
  by_cases h1 : 16384 < u3
  · rw [if_pos h1, if_pos h1]
  · rw [if_neg h1] at h ⊢
    rw [if_neg h1]
    by_cases h2 : p.length < t + u3 + 4
    · rw [if_pos h2] at h; exact absurd rfl h
    · rw [if_neg h2, if_neg (by rw [List.length_append]; omega), List.take_append_of_le_length (by omega)]
      have e1 : (p ++ q).headD 0 = p.headD 0 := by cases p with
        | nil => exact absurd rfl hp
        | cons a p => rfl
      have e2 : ((p ++ q).drop t).take u3 = (p.drop t).take u3 := by
        rw [List.drop_append_of_le_length (by omega), List.take_append_of_le_length (by rw [List.length_drop]; omega)]
      rw [e1, e2, rdFrame_app q _ (by omega)]
/-- what is read of bytes that suffice does not depend on what follows. -/
theorem readL_app {p : List UInt8} (q : List UInt8) (h : (readL p).err ≠ 4) : readL (p ++ q) = readL p := by
  unfold readL at h ⊢
  by_cases hp : p = []
  · rw [if_pos hp] at h; exact absurd rfl h
  · rw [if_neg hp] at h ⊢
    rw [if_neg (by simp [hp])]
    have h1 : 1 ≤ p.length := List.length_pos_iff.2 hp
    refine rdStep_app h1 (fun u1 a1 ha1 h => ?_) h
    refine rdStep_app ha1 (fun u2 a2 ha2 h => ?_) h
    refine rdStep_app ha2 (fun u3 a3 _ h => ?_) h
    exact rdBody_app hp h
theorem rdStep_ok {l : List UInt8} {t : Nat} {k : Nat → Nat → RdV} (h : (rdStep l t k).err = 0) : ∃ u a, t < a ∧ u < 18446744073709551616 ∧ rdStep l t k = k u a := by
  unfold rdStep at h ⊢
  by_cases h0 : (takeL (l.drop t)).2.2 = 0
  · rw [if_pos h0]
    have e : takeL (l.drop t) = ((takeL (l.drop t)).1, (takeL (l.drop t)).2.1, 0) := by rw [← h0]
    have := (takeL_ok e).1
    exact ⟨_, _, by omega, take_lt 10 _ 0 0 _ _ rfl (by decide) e, rfl⟩
  · rw [if_neg h0] at h; exact absurd h h0
/-- a frame that was read can be written, and is the beginning of the bytes. -/
theorem readL_ok {l : List UInt8} (h : (readL l).err = 0) : 4 < (readL l).n ∧ (readL l).n ≤ l.length ∧ frameE (readL l).frame = 0 ∧ frB (readL l).frame = ⟨(l.take (readL l).n).toArray⟩ := by
  unfold readL at h ⊢
  by_cases hp : l = []
  · rw [if_pos hp] at h; cases h
  · rw [if_neg hp] at h ⊢
    obtain ⟨u1, a1, h1, _, e1⟩ := rdStep_ok h
    rw [e1] at h ⊢
    obtain ⟨u2, a2, h2, _, e2⟩ := rdStep_ok h
    rw [e2] at h ⊢
    obtain ⟨u3, a3, h3, _, e3⟩ := rdStep_ok h
    rw [e3] at h ⊢
    unfold rdBody at h ⊢
    split at h
    · cases h
    · rename_i q1
      rw [if_neg q1]
      split at h
      · cases h
      · rename_i q2
        rw [if_neg q2]
        split at h
        · cases h
        · rename_i q3
          rw [if_neg q3]
          split at h
          · cases h
          · rename_i q4
            rw [if_neg q4]
            unfold rdFrame at h ⊢
            split at h
            · cases h
            · rename_i q5
              rw [if_neg q5]
              split at h
              · rename_i q6; exact absurd h q6
              · rename_i q6
                rw [if_neg q6]
                split at h
                · rename_i q7
                  rw [if_pos q7]
                  exact ⟨show 4 < a3 + u3 + 4 by omega, show a3 + u3 + 4 ≤ l.length by omega, Decidable.not_not.1 q6, q7⟩
                · cases h
theorem rdStep_put {l r : List UInt8} {t u : Nat} {k : Nat → Nat → RdV} (h : l.drop t = putL u ++ r) (hu : u < 18446744073709551616) :
    rdStep l t k = k u (t + (putL u).length) ∧ l.drop (t + (putL u).length) = r := by
  refine ⟨?_, ?_⟩
  · unfold rdStep; rw [h, takeL_put u r hu]; rfl
  · rw [← List.drop_drop, h, List.drop_left]
theorem frB_list (f : FrV) : (frB f).data.toList = UInt8.ofNat f.kind.toNat :: (putL f.strm.toNat ++ (putL f.num.toNat ++ (putL f.data.size ++ (f.data.data.toList ++ le4 (crcV (frL f)))))) := by
  unfold frB; rw [sealB_data]; simp [frL]
def hdLen (f : FrV) : Nat := 1 + (putL f.strm.toNat).length + (putL f.num.toNat).length + (putL f.data.size).length
theorem frB_size (f : FrV) : (frB f).size = hdLen f + f.data.size + 4 := by
  have e : (frB f).size = (frB f).data.toList.length := by rw [Array.length_toList]; rfl
  have e2 : f.data.size = f.data.data.toList.length := by rw [Array.length_toList]; rfl
  rw [e, frB_list]
  unfold hdLen
  rw [e2]
  simp [le4]; omega
/-- what a frame must be to be written. -/
theorem frameE_ok {f : FrV} (h : frameE f = 0) : 1 ≤ f.kind ∧ f.kind ≤ 9 ∧ 0 ≤ f.strm ∧ f.strm ≤ 2147483647 ∧ 0 ≤ f.num ∧ f.num ≤ 4294967295 ∧ f.data.size ≤ 16384 := by
  unfold frameE at h
  split at h
  · cases h
  · rename_i q1
    split at h
    · cases h
    · rename_i q2
      have s1 : strmB f.kind f.strm = true := by simpa using fun e => q1 (.inr (.inr (.inl e)))
      have n1 : numB f.kind f.num = true := by simpa using fun e => q1 (.inr (.inr (.inr (.inl e))))
      refine ⟨by omega, by omega, ?_, by omega, ?_, ?_, by omega⟩
      · unfold strmB at s1; split at s1 <;> (try split at s1) <;> simp at s1 <;> omega
      · unfold numB at n1; (repeat' split at n1) <;> simp at n1 <;> omega
      · unfold numB at n1; (repeat' split at n1) <;> simp at n1 <;> omega
theorem headD_cons (a : UInt8) (l : List UInt8) : (a :: l).headD 0 = a := rfl
/-- bytes that begin as a frame's do, as far as its data: what Read does there. -/
theorem readL_head (f : FrV) (h : frameE f = 0) (r : List UInt8) : readL (UInt8.ofNat f.kind.toNat :: (putL f.strm.toNat ++ (putL f.num.toNat ++ (putL f.data.size ++ r)))) =
    rdBody (UInt8.ofNat f.kind.toNat :: (putL f.strm.toNat ++ (putL f.num.toNat ++ (putL f.data.size ++ r)))) (hdLen f) f.strm.toNat f.num.toNat f.data.size := by
  obtain ⟨h1, h2, h3, h4, h5, h6, h7⟩ := frameE_ok h
  generalize hl : UInt8.ofNat f.kind.toNat :: (putL f.strm.toNat ++ (putL f.num.toNat ++ (putL f.data.size ++ r))) = l
  unfold readL
  rw [if_neg (by rw [← hl]; simp)]
  have d1 : l.drop 1 = putL f.strm.toNat ++ (putL f.num.toNat ++ (putL f.data.size ++ r)) := by rw [← hl]; rfl
  have e1 := fun k => rdStep_put (k := k) d1 (by omega)
  rw [(e1 _).1]
  have e2 := fun k => rdStep_put (k := k) (e1 (fun _ _ => rdErr 0)).2 (by omega)
  rw [(e2 _).1]
  have e3 := fun k => rdStep_put (k := k) (e2 (fun _ _ => rdErr 0)).2 (by omega)
  rw [(e3 _).1]
  rfl
theorem drop_head (f : FrV) (r : List UInt8) : (UInt8.ofNat f.kind.toNat :: (putL f.strm.toNat ++ (putL f.num.toNat ++ (putL f.data.size ++ r)))).drop (hdLen f) = r := by
  have e : UInt8.ofNat f.kind.toNat :: (putL f.strm.toNat ++ (putL f.num.toNat ++ (putL f.data.size ++ r))) = (UInt8.ofNat f.kind.toNat :: (putL f.strm.toNat ++ (putL f.num.toNat ++ putL f.data.size))) ++ r := by simp
  rw [e, List.drop_left' (by simp [hdLen]; omega)]
/-- a frame that can be written is read from its bytes, whatever follows. -/
theorem readL_frB (f : FrV) (h : frameE f = 0) (q : List UInt8) : readL ((frB f).data.toList ++ q) = ⟨f, (frB f).size, 0⟩ := by
  obtain ⟨h1, h2, h3, h4, h5, h6, h7⟩ := frameE_ok h
  have e2 : f.data.size = f.data.data.toList.length := by rw [Array.length_toList]; rfl
  have hl : (frB f).data.toList ++ q = UInt8.ofNat f.kind.toNat :: (putL f.strm.toNat ++ (putL f.num.toNat ++ (putL f.data.size ++ ((f.data.data.toList ++ le4 (crcV (frL f))) ++ q)))) := by rw [frB_list]; simp
  have hz : (frB f).data.toList.length = (frB f).size := by rw [Array.length_toList]; rfl
  have hs := frB_size f
  rw [hl, readL_head f h]
  rw [← hl]
  unfold rdBody
  rw [if_neg (by omega), if_neg (by rw [List.length_append, hz]; omega)]
  have htk : ((frB f).data.toList ++ q).take (hdLen f + f.data.size + 4) = (frB f).data.toList := by rw [← hs, ← hz, List.take_left]
  rw [htk]
  have ho : openB ⟨(frB f).data.toList.toArray⟩ = (⟨(frL f).toArray⟩, 0) := openB_seal _
  rw [ho, if_neg (by simp), if_neg (by omega)]
  have hd : (((frB f).data.toList ++ q).drop (hdLen f)).take f.data.size = f.data.data.toList := by
    rw [hl, drop_head, List.append_assoc, e2, List.take_left]
  have hh : (((frB f).data.toList ++ q).headD 0).toNat = f.kind.toNat := by
    rw [frB_list, List.cons_append, headD_cons, UInt8.toNat_ofNat']; omega
  rw [hd, hh]
  have hf : (⟨(f.kind.toNat : Int), (f.strm.toNat : Int), (f.num.toNat : Int), ⟨f.data.data.toList.toArray⟩⟩ : FrV) = f := by
    obtain ⟨k, s, n, d⟩ := f
    simp only at h1 h3 h5
    simp only [FrV.mk.injEq]
    exact ⟨by omega, by omega, by omega, trivial⟩
  rw [hf]
  unfold rdFrame
  rw [h, if_neg (by decide), if_neg (by simp), htk, if_pos rfl, ← hs]
theorem readL_nil : readL [] = rdErr 4 := rfl
theorem splitF_acc : ∀ (k : Nat) (l : List UInt8) (acc : List FrV), splitF k l acc = if (splitF k l []).err = 0 then ⟨acc ++ (splitF k l []).frames, (splitF k l []).rest, 0⟩ else splitF k l []
  | 0, l, acc => by simp [splitF]
  | k + 1, l, acc => by
    unfold splitF
    by_cases h0 : (readL l).err = 0
    · rw [if_pos h0, if_pos h0, splitF_acc k _ (acc ++ _), splitF_acc k _ ([] ++ _)]
      split
      · simp
      · rfl
    · rw [if_neg h0, if_neg h0]
      by_cases h4 : (readL l).err = 4
      · rw [if_pos h4, if_pos h4]; simp
      · rw [if_neg h4, if_neg h4, if_neg h0]
theorem splitF_fuel : ∀ (k m : Nat) (l : List UInt8), l.length < k → l.length < m → splitF k l [] = splitF m l []
  | 0, _, _, h, _ => absurd h (Nat.not_lt_zero _)
  | k + 1, 0, _, _, h => absurd h (Nat.not_lt_zero _)
  | k + 1, m + 1, l, hk, hm => by
    unfold splitF
    by_cases h0 : (readL l).err = 0
    · rw [if_pos h0, if_pos h0]
      obtain ⟨h1, h2, _⟩ := readL_ok h0
      rw [splitF_acc k, splitF_acc m, splitF_fuel k m _ (by rw [List.length_drop]; omega) (by rw [List.length_drop]; omega)]
    · rw [if_neg h0, if_neg h0]
/-- a split by its first frame. -/
theorem splitL_step (l : List UInt8) : splitL l = if (readL l).err = 0 then (if (splitL (l.drop (readL l).n)).err = 0 then ⟨(readL l).frame :: (splitL (l.drop (readL l).n)).frames, (splitL (l.drop (readL l).n)).rest, 0⟩ else splitL (l.drop (readL l).n)) else if (readL l).err = 4 then ⟨[], l, 0⟩ else ⟨[], [], (readL l).err⟩ := by
  conv => lhs; unfold splitL splitF
  by_cases h0 : (readL l).err = 0
  · rw [if_pos h0, if_pos h0]
    obtain ⟨h1, h2, _⟩ := readL_ok h0
    rw [splitF_acc, splitF_fuel l.length ((l.drop (readL l).n).length + 1) _ (by rw [List.length_drop]; omega) (by omega)]
    rfl
  · rw [if_neg h0, if_neg h0]
/-- an answer that is an error has neither frames nor rest. -/
theorem splitL_bad : ∀ (n : Nat) (l : List UInt8), l.length ≤ n → (splitL l).err ≠ 0 → (splitL l).frames = [] ∧ (splitL l).rest = []
  | n, l, hn, h => by
    rw [splitL_step] at h ⊢
    by_cases h0 : (readL l).err = 0
    · rw [if_pos h0] at h ⊢
      obtain ⟨h1, h2, _⟩ := readL_ok h0
      by_cases h3 : (splitL (l.drop (readL l).n)).err = 0
      · rw [if_pos h3] at h; exact absurd rfl h
      · rw [if_neg h3] at h ⊢
        cases n with
        | zero => omega
        | succ n => exact splitL_bad n _ (by rw [List.length_drop]; omega) h3
    · rw [if_neg h0] at h ⊢
      by_cases h4 : (readL l).err = 4
      · rw [if_pos h4] at h; exact absurd rfl h
      · rw [if_neg h4]; exact ⟨rfl, rfl⟩
/-- bytes that can be split can be cut anywhere. -/
theorem splitL_app : ∀ (n : Nat) (p q : List UInt8), p.length ≤ n → (splitL (p ++ q)).err = 0 →
    (splitL p).err = 0 ∧ (splitL p).rest.length ≤ p.length ∧ (splitL ((splitL p).rest ++ q)).err = 0 ∧ (splitL ((splitL p).rest ++ q)).rest = (splitL (p ++ q)).rest ∧ (splitL p).frames ++ (splitL ((splitL p).rest ++ q)).frames = (splitL (p ++ q)).frames
  | n, p, q, hn, h => by
    by_cases h0 : (readL p).err = 0
    · obtain ⟨h1, h2, _⟩ := readL_ok h0
      have ha := readL_app q (p := p) (by rw [h0]; decide)
      have hd : (p ++ q).drop (readL p).n = p.drop (readL p).n ++ q := by rw [List.drop_append_of_le_length h2]
      have e1 := splitL_step (p ++ q)
      rw [ha, if_pos h0, hd] at e1
      have e2 := splitL_step p
      rw [if_pos h0] at e2
      have hg : (splitL (p.drop (readL p).n ++ q)).err = 0 := by
        rw [e1] at h
        by_cases hx : (splitL (p.drop (readL p).n ++ q)).err = 0
        · exact hx
        · rw [if_neg hx] at h; exact h
      rw [if_pos hg] at e1
      cases n with
      | zero => omega
      | succ n =>
        obtain ⟨g1, g2, g3, g4, g5⟩ := splitL_app n (p.drop (readL p).n) q (by rw [List.length_drop]; omega) hg
        rw [if_pos g1] at e2
        rw [e1, e2]
        rw [List.length_drop] at g2
        refine ⟨rfl, show (splitL (p.drop (readL p).n)).rest.length ≤ p.length by omega, g3, g4, ?_⟩
        show _ :: _ ++ _ = _ :: _
        rw [List.cons_append, g5]
    · have e2 := splitL_step p
      rw [if_neg h0] at e2
      by_cases h4 : (readL p).err = 4
      · rw [if_pos h4] at e2
        rw [e2]
        exact ⟨rfl, Nat.le_refl _, h, rfl, rfl⟩
      · exfalso
        have e1 := splitL_step (p ++ q)
        rw [readL_app q h4, if_neg h0, if_neg h4] at e1
        rw [e1] at h
        exact h0 h
theorem splitL_one (f : FrV) (h : frameE f = 0) : splitL (frB f).data.toList = ⟨[f], [], 0⟩ := by
  have hr : readL (frB f).data.toList = ⟨f, (frB f).size, 0⟩ := by have := readL_frB f h []; rwa [List.append_nil] at this
  have hz : (frB f).data.toList.length = (frB f).size := by rw [Array.length_toList]; rfl
  rw [splitL_step, hr, if_pos rfl]
  have : (frB f).data.toList.drop (frB f).size = [] := List.drop_eq_nil_of_le (by omega)
  simp only [this]
  rfl
/-- a frame changed behind its head is not read. -/
theorem readL_patch (f : FrV) (h : frameE f = 0) {p : Nat} {M : List UInt8} (hp : hdLen f ≤ p) (hx : Patch (frB f).data.toList p 4 M true) : readL M = rdErr 25 := by
  obtain ⟨h1, h2, h3, h4, h5, h6, h7⟩ := frameE_ok h
  have hz : (frB f).data.toList.length = (frB f).size := by rw [Array.length_toList]; rfl
  have hs := frB_size f
  have hlen : M.length = hdLen f + f.data.size + 4 := by rw [hx.len, hz, hs]
  have hM : M = UInt8.ofNat f.kind.toNat :: (putL f.strm.toNat ++ (putL f.num.toNat ++ (putL f.data.size ++ M.drop (hdLen f)))) := by
    have e : UInt8.ofNat f.kind.toNat :: (putL f.strm.toNat ++ (putL f.num.toNat ++ (putL f.data.size ++ M.drop (hdLen f)))) = (frB f).data.toList.take (hdLen f) ++ M.drop (hdLen f) := by
      have e1 : (frB f).data.toList = (UInt8.ofNat f.kind.toNat :: (putL f.strm.toNat ++ (putL f.num.toNat ++ putL f.data.size))) ++ (f.data.data.toList ++ le4 (crcV (frL f))) := by rw [frB_list]; simp
      rw [e1, List.take_left' (by simp [hdLen]; omega)]
      simp
    rw [e]
    have e2 : M.take (hdLen f) = (frB f).data.toList.take (hdLen f) := by
      refine List.ext_getElem? fun j => ?_
      rw [List.getElem?_take, List.getElem?_take]
      split
      · exact hx.out j (.inl (by omega))
      · rfl
    rw [← e2, List.take_append_drop]
  have hr := readL_head f h (M.drop (hdLen f))
  rw [← hM] at hr
  rw [hr]
  unfold rdBody
  rw [if_neg (by omega), if_neg (by omega), ← hlen, List.take_length]
  have ho := Patch.open_ne (s := ⟨(frL f).toArray⟩) hx (by omega)
  rw [ho, if_pos (by decide)]
end Go.Proofs.YtpfkddbhpoeknaaGreatDoor
