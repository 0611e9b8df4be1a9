/- Texts of this claim merged into one: KVFac, KVInv, KVSon, KVCon, KVOps. -/
import Derived.Test.YtklcfjlmlbnkaaaGreatDoorKBunC10
import Derived.Test.YtklcfjlmlbnkaaaGreatDoorKBunF
namespace Go.Proofs.YtklcfjlmlbnkaaaGreatDoor.Y
theorem xZ {d : ByteArray} (h : (aV d).err = 0) : bF (aV d).code (aV d).text = 0 := by
  unfold aV at h ⊢
  by_cases h0 : (cx d).2.2 = 0
  · rw [if_pos h0] at h ⊢
    unfold gj at h ⊢
    by_cases a : (cx d).2.1 ≠ (aM (cx d).1).length
    · rw [if_pos a] at h; exact absurd h (by decide)
    rw [if_neg a] at h ⊢
    by_cases b : 13 < (cx d).1
    · rw [if_pos b] at h; exact absurd h (by decide)
    rw [if_neg b] at h ⊢
    by_cases c : bF (cx d).1 (d.extract (cx d).2.1 d.size) = 0
    · rw [if_pos c]; exact c
    · rw [if_neg c] at h; exact absurd h c
  · rw [if_neg h0] at h
    exact absurd h h0
theorem oe {n : Int} (h0 : 0 ≤ n) (h1 : n ≤ 13) : bF n ⟨#[]⟩ = 0 := by
  unfold bF
  have hv : kg ⟨#[]⟩ = true := by kernel_rfl
  rw [if_neg (by omega), hv, if_neg (by simp), if_neg (by decide), if_neg (by rintro ⟨_, e⟩; exact e rfl)]
theorem BZ {n : Int} {t : ByteArray} (h : bF n t = 0) : t.size ≤ 4096 := by
  unfold bF at h
  repeat' split at h
  all_goals omega
theorem FP {s : ByteArray} (h : (cM s).err = 0) : bQ (cM s).head = 0 := (uN h).1
theorem ya : ∀ (ms : List (ByteArray × ByteArray)) (i : Nat) (p : ByteArray), gT i p ms = 0 → ∀ m ∈ ms, m.1.size < 4294967281 ∧ m.2.size < 4294967281
  | [], _, _, _, _, h => by cases h
  | (k, v) :: r, i, p, h, m, hm => by
    rw [gT] at h
    repeat' split at h
    all_goals first
      | (exfalso; revert h; decide)
      | skip
    rename_i a b _ _
    have hk : jK k.data.toList = true := by simpa using a
    unfold jK at hk
    simp only [Bool.and_eq_true, decide_eq_true_eq] at hk
    rcases List.mem_cons.1 hm with rfl | hm
    · have h1 := hk.1.2
      rw [Array.length_toList] at h1
      refine ⟨?_, by show v.size < _; omega⟩
      show k.data.size < _
      omega
    · exact ya r (i + 1) k h m hm
theorem G9 {h : jU} (e : bQ h = 0) : lg h ∧ h.metas.length ≤ 16 := by
  unfold bQ at e
  repeat' split at e
  all_goals first
    | (exfalso; revert e; decide)
    | skip
  rename_i a b c
  have h1 : fP h.svc.data.toList = true := by simpa using fun x => a (.inl x)
  have h2 : bV h.mth.data.toList = true := by simpa using fun x => a (.inr x)
  unfold fP at h1
  unfold bV at h2
  simp only [Bool.and_eq_true, decide_eq_true_eq, Array.length_toList] at h1 h2
  refine ⟨⟨?_, ?_, ya h.metas 0 _ e⟩, by omega⟩
  · have := h1.1
    show h.svc.data.size < _
    omega
  · have := h2.1.1.2
    show h.mth.data.size < _
    omega
end Go.Proofs.YtklcfjlmlbnkaaaGreatDoor.Y
namespace Go.Proofs.YtklcfjlmlbnkaaaGreatDoor.Y
theorem dz (d : ByteArray) : 1 ≤ au d := by unfold au; split <;> omega
theorem aR {w : WinV} : aS w = true ↔ (1 ≤ w.size ∧ w.size ≤ 1048576 ∧ 0 ≤ w.left ∧ 0 ≤ w.held ∧ w.left ≤ 1048576 ∧ w.left + w.held ≤ 1048576) := by unfold aS; exact decide_eq_true_iff
theorem jy {w : WinV} {n : Int} (h : aS w = true) (h0 : 0 ≤ n) (h1 : n ≤ w.left) : cS w n = ⟨⟨w.size, w.left - n, w.held⟩, 0⟩ := by
  unfold cS
  rw [if_neg (by rw [h]; simp; omega), if_neg (by omega)]
theorem mg {w : WinV} {n : Int} (h : (cS w n).err = 0) : aS w = true ∧ 0 ≤ n ∧ n ≤ w.left ∧ cS w n = ⟨⟨w.size, w.left - n, w.held⟩, 0⟩ := by
  unfold cS at h
  split at h
  · cases h
  · rename_i h1
    split at h
    · cases h
    · have h2 : aS w = true := by simpa using fun e => h1 (.inl e)
      exact ⟨h2, by omega, by omega, jy h2 (by omega) (by omega)⟩
theorem pA {w : WinV} {n : Int} (h : aS w = true) (h0 : 0 ≤ n) (h1 : n ≤ w.left) : bo w n = ⟨⟨w.size, w.left - n, w.held + n⟩, 0⟩ := by
  unfold bo
  rw [if_neg (by rw [h]; simp; omega), if_neg (by omega)]
theorem D9 {w : WinV} {n : Int} (h : (bo w n).err = 0) : aS w = true ∧ 0 ≤ n ∧ n ≤ w.left ∧ bo w n = ⟨⟨w.size, w.left - n, w.held + n⟩, 0⟩ := by
  unfold bo at h
  split at h
  · cases h
  · rename_i h1
    split at h
    · cases h
    · have h2 : aS w = true := by simpa using fun e => h1 (.inl e)
      exact ⟨h2, by omega, by omega, pA h2 (by omega) (by omega)⟩
theorem B1 {w : WinV} {n : Int} (h : aS w = true) (h0 : 1 ≤ n) (h1 : n ≤ 1048576 - w.left - w.held) : cC w n = ⟨⟨w.size, w.left + n, w.held⟩, 0⟩ := by
  unfold cC
  rw [if_neg (by rw [h]; simp; omega), if_neg (by omega)]
theorem og {w : WinV} {n : Int} (h : (cC w n).err = 0) : aS w = true ∧ 1 ≤ n ∧ n ≤ 1048576 - w.left - w.held ∧ cC w n = ⟨⟨w.size, w.left + n, w.held⟩, 0⟩ := by
  unfold cC at h
  split at h
  · cases h
  · rename_i h1
    split at h
    · cases h
    · have h2 : aS w = true := by simpa using fun e => h1 (.inl e)
      exact ⟨h2, by omega, by omega, B1 h2 (by omega) (by omega)⟩
theorem pB {w : WinV} {n : Int} (h : aS w = true) (h0 : 0 ≤ n) (h1 : n ≤ w.left) : aS ⟨w.size, w.left - n, w.held⟩ = true := by
  rw [aR] at h ⊢; dsimp only; omega
theorem sG {w : WinV} {n : Int} (h : aS w = true) (h0 : 0 ≤ n) (h1 : n ≤ w.left) : aS ⟨w.size, w.left - n, w.held + n⟩ = true := by
  rw [aR] at h ⊢; dsimp only; omega
theorem oh {w : WinV} {n : Int} (h : aS w = true) (h0 : 1 ≤ n) (h1 : n ≤ 1048576 - w.left - w.held) : aS ⟨w.size, w.left + n, w.held⟩ = true := by
  rw [aR] at h ⊢; dsimp only; omega
structure VS (s : StV) : Prop where
  id : 1 ≤ s.id ∧ s.id ≤ 2147483647
  sd : s.side = 1 ∨ s.side = 2
  sh : sU s.shape = true
  sn : aS s.snd = true
  rv : aS s.rcv = true
  rq : 0 ≤ jA s ∧ jA s ≤ li (c2 s.shape)
  rs : 0 ≤ ng s ∧ ng s ≤ li (c4 s.shape)
  dn : s.done = true → s.se = true ∧ s.ge = true ∧ bF s.code s.text = 0
  nd : s.done = false → uj s = false ∧ (rZ s = true → c1 s.shape ≤ jA s) ∧ s.code = 0 ∧ s.text.size = 0
theorem fU {s : StV} : df s = true ↔ VS s := by
  unfold df wn sg Bl
  constructor
  · intro h
    simp only [Bool.and_eq_true, decide_eq_true_eq] at h
    obtain ⟨⟨⟨⟨a1, a2, a3⟩, a4⟩, ⟨a5, a6⟩, a7, a8, a9, a10⟩, a11⟩ := h
    refine ⟨⟨a1, a2⟩, a3, a4, a5, a6, ⟨a7, a8⟩, ⟨a9, a10⟩, fun hd => ?_, fun hd => ?_⟩
    · rw [if_pos hd] at a11
      simp only [Bool.and_eq_true, decide_eq_true_eq] at a11
      exact ⟨a11.1.1, a11.1.2, a11.2⟩
    · rw [if_neg (by rw [hd]; simp)] at a11
      simp only [Bool.and_eq_true, decide_eq_true_eq, Bool.not_eq_true', Bool.or_eq_true] at a11
      exact ⟨a11.1.1.1, fun h => a11.1.1.2.resolve_left (by rw [h]; simp), a11.1.2, a11.2⟩
  · intro h
    simp only [Bool.and_eq_true, decide_eq_true_eq]
    refine ⟨⟨⟨⟨h.id.1, h.id.2, h.sd⟩, h.sh⟩, ⟨h.sn, h.rv⟩, h.rq.1, h.rq.2, h.rs⟩, ?_⟩
    cases hd : s.done with
    | true =>
      obtain ⟨a, b, c⟩ := h.dn hd
      rw [if_pos rfl, a, b, c]; rfl
    | false =>
      obtain ⟨a, b, c, d⟩ := h.nd hd
      rw [if_neg (by simp)]
      simp only [Bool.and_eq_true, decide_eq_true_eq, Bool.not_eq_true', Bool.or_eq_true]
      refine ⟨⟨⟨a, ?_⟩, c⟩, d⟩
      cases hq : rZ s with
      | false => exact .inl rfl
      | true => exact .inr (b hq)
inductive Gx (s : StV) (f : FrV) : StV → Prop
  | data (hk : f.kind = 2) (he : s.se = false) (hm : s.sent < jb s (s.side == 1)) (hz : au f.data ≤ s.snd.size) (hl : au f.data ≤ s.snd.left) : Gx s f { s with sent := s.sent + 1, snd := ⟨s.snd.size, s.snd.left - au f.data, s.snd.held⟩ }
  | fin (hk : f.kind = 3) (he : s.se = false) (hs : s.side = 1) (hm : c1 s.shape ≤ s.sent) : Gx s f { s with se := true }
  | stat (hk : f.kind = 4) (hs : s.side ≠ 1) (hm : (aV f.data).code = 0 → iL s = false) : Gx s f (dN s (aV f.data).code (aV f.data).text)
  | reset (hk : f.kind = 5) : Gx s f (dN s f.num ⟨#[]⟩)
structure SndOk (s : StV) (f : FrV) (t : StV) : Prop where
  v : df s = true
  fe : ay f = 0
  i : f.strm = s.id
  d : s.done = false
  h : Gx s f t
theorem fH {s : StV} {f : FrV} (h : (bh s f).err = 0) : SndOk s f (bh s f).st := by
  unfold bh at h ⊢
  split at h
  · cases h
  rename_i g0
  rw [if_neg g0]
  have hv : df s = true := by simpa using fun e => g0 (.inl e)
  have hf : ay f = 0 := Decidable.not_not.1 fun e => g0 (.inr (.inl e))
  have hi : f.strm = s.id := Decidable.not_not.1 fun e => g0 (.inr (.inr e))
  split at h
  · rename_i hk
    rw [if_pos hk]
    split at h
    · cases h
    rename_i g1
    rw [if_neg g1]
    split at h
    · cases h
    rename_i g2
    rw [if_neg g2]
    split at h
    · cases h
    rename_i g3
    rw [if_neg g3]
    split at h
    · rename_i g4; exact absurd h g4
    rename_i g4
    rw [if_neg g4]
    obtain ⟨_, _, t3, t4⟩ := mg (Decidable.not_not.1 g4)
    refine ⟨hv, hf, hi, eq_false_of_ne_true fun e => g1 (.inl e), ?_⟩
    rw [t4]
    exact .data hk (eq_false_of_ne_true fun e => g1 (.inr e)) (by omega) (by omega) t3
  · rename_i hk2
    rw [if_neg hk2]
    split at h
    · rename_i hk
      rw [if_pos hk]
      split at h
      · cases h
      rename_i g1
      rw [if_neg g1]
      split at h
      · cases h
      rename_i g2
      rw [if_neg g2]
      exact ⟨hv, hf, hi, eq_false_of_ne_true fun e => g1 (.inl e), .fin hk (eq_false_of_ne_true fun e => g1 (.inr (.inl e))) (Decidable.not_not.1 fun e => g1 (.inr (.inr e))) (by omega)⟩
    · rename_i hk3
      rw [if_neg hk3]
      split at h
      · rename_i hk
        rw [if_pos hk]
        split at h
        · cases h
        rename_i g1
        rw [if_neg g1]
        split at h
        · cases h
        rename_i g2
        rw [if_neg g2]
        refine ⟨hv, hf, hi, eq_false_of_ne_true fun e => g1 (.inl e), ?_⟩
        rw [eg, if_neg (by omega)]
        exact .stat hk (fun e => g1 (.inr e)) (fun e => eq_false_of_ne_true fun e' => g2 ⟨e, e'⟩)
      · rename_i hk4
        rw [if_neg hk4]
        split at h
        · rename_i hk
          rw [if_pos hk]
          split at h
          · cases h
          rename_i g1
          rw [if_neg g1, eg, if_pos hk]
          exact ⟨hv, hf, hi, eq_false_of_ne_true g1, .reset hk⟩
        · cases h
theorem ij {s t : StV} {f : FrV} (h : SndOk s f t) : bh s f = ⟨t, 0⟩ := by
  obtain ⟨hv, hf, hi, hd, h⟩ := h
  have hd' : ¬ s.done = true := by rw [hd]; simp
  unfold bh
  rw [if_neg (by rw [hv, hf, hi]; simp)]
  cases h with
  | data hk he hm hz hl =>
    have hw := (fU.1 hv).sn
    have he' : ¬ s.se = true := by rw [he]; simp
    have ht := jy hw (show 0 ≤ au f.data by have := dz f.data; omega) hl
    rw [if_pos hk, if_neg (by rintro (e | e); exact hd' e; exact he' e), if_neg (by omega), if_neg (by omega), ht, if_neg (by simp)]
  | fin hk he hs hm =>
    have he' : ¬ s.se = true := by rw [he]; simp
    rw [if_neg (by omega), if_pos hk, if_neg (by rintro (e | e | e); exact hd' e; exact he' e; exact e hs), if_neg (by omega)]
  | stat hk hs hm =>
    rw [if_neg (by omega), if_neg (by omega), if_pos hk, if_neg (by rintro (e | e); exact hd' e; exact hs e), if_neg (by rintro ⟨e, e'⟩; rw [hm e] at e'; cases e'), eg, if_neg (by omega)]
  | reset hk =>
    rw [if_neg (by omega), if_neg (by omega), if_neg (by omega), if_pos hk, if_neg hd', eg, if_pos hk]
theorem pD {f : FrV} (h : ay f = 0) : fQ f.kind f.num = true := by
  unfold ay at h
  split at h
  · cases h
  · rename_i g
    simpa using fun e => g (.inr (.inr (.inr (.inl e))))
theorem sH {f : FrV} (h : ay f = 0) : eA f.kind f.strm = true := by
  unfold ay at h
  split at h
  · cases h
  · rename_i g
    simpa using fun e => g (.inr (.inr (.inl e)))
theorem fw {f : FrV} (h : ay f = 0) : f.data.size ≤ 16384 ∧ f.strm ≤ 2147483647 := by
  unfold ay at h
  split at h
  · cases h
  · split at h
    · cases h
    · omega
theorem sI {f : FrV} (h : ay f = 0) : 1 ≤ f.kind ∧ f.kind ≤ 9 := by
  unfold ay at h
  split at h
  · cases h
  · omega
theorem B2 {f : FrV} (h : ay f = 0) (hk : f.kind = 4) : (aV f.data).err = 0 := by
  unfold ay at h
  split at h
  · cases h
  · split at h
    · cases h
    · repeat' split at h
      all_goals first | exact h | omega
theorem uU {f : FrV} (h : ay f = 0) (hk : f.kind = 5) : 1 ≤ f.num ∧ f.num ≤ 13 := by
  have := pD h
  unfold fQ at this
  rw [if_neg (by omega), if_pos hk] at this
  exact of_decide_eq_true this
theorem VS.done {s : StV} (h : VS s) {c : Int} {t : ByteArray} (hc : bF c t = 0) : VS (dN s c t) := by
  refine ⟨h.id, h.sd, h.sh, h.sn, h.rv, h.rq, h.rs, fun _ => ⟨rfl, rfl, hc⟩, fun e => ?_⟩
  cases e
theorem jk {s t : StV} {f : FrV} (h : SndOk s f t) : VS t := by
  obtain ⟨hv, hf, hi, hd, h⟩ := h
  have v := fU.1 hv
  obtain ⟨n1, n2, n3, n4⟩ := v.nd hd
  cases h with
  | data hk he hm hz hl =>
    have hp := dz f.data
    have rq := v.rq
    have rs := v.rs
    refine ⟨v.id, v.sd, v.sh, pB v.sn (by omega) hl, v.rv, ?_, ?_, fun e => ?_, fun _ => ?_⟩
    · unfold jA at rq ⊢
      unfold jb at hm
      rcases v.sd with e | e
      · rw [if_pos e] at rq
        rw [if_pos (show (s.side == 1) = true by rw [e]; rfl)] at hm
        dsimp only; rw [if_pos e]; omega
      · rw [if_neg (by omega)] at rq
        dsimp only; rw [if_neg (by omega)]; exact rq
    · unfold ng at rs ⊢
      unfold jb at hm
      rcases v.sd with e | e
      · rw [if_pos e] at rs
        dsimp only; rw [if_pos e]; exact rs
      · rw [if_neg (by omega)] at rs
        rw [if_neg (show ¬ (s.side == 1) = true by rw [e]; decide)] at hm
        dsimp only; rw [if_neg (by omega)]; omega
    · dsimp only at e; rw [hd] at e; cases e
    · refine ⟨n1, fun e => ?_, n3, n4⟩
      have h2 := n2 e
      unfold jA at h2 ⊢
      split at h2
      · dsimp only; rw [if_pos (by assumption)]; omega
      · dsimp only; rw [if_neg (by assumption)]; omega
  | fin hk he hs hm =>
    refine ⟨v.id, v.sd, v.sh, v.sn, v.rv, v.rq, v.rs, fun e => ?_, fun _ => ⟨?_, fun _ => ?_, n3, n4⟩⟩
    · dsimp only at e; rw [hd] at e; cases e
    · unfold uj at n1 ⊢; dsimp only; rw [if_pos hs] at n1 ⊢; exact n1
    · unfold jA; dsimp only; rw [if_pos hs]; exact hm
  | stat hk hs hm => exact v.done (xZ (B2 hf hk))
  | reset hk =>
    have := uU hf hk
    exact v.done (oe (by omega) (by omega))
structure Kept (s t : StV) : Prop where
  id : t.id = s.id
  sd : t.side = s.side
  sh : t.shape = s.shape
  got : t.got = s.got
  rcv : t.rcv = s.rcv
  sz : t.snd.size = s.snd.size
  hd : t.snd.held = s.snd.held
theorem Kept.refl (s : StV) : Kept s s := ⟨rfl, rfl, rfl, rfl, rfl, rfl, rfl⟩
theorem Kept.trans {a b c : StV} (h1 : Kept a b) (h2 : Kept b c) : Kept a c := ⟨h2.id.trans h1.id, h2.sd.trans h1.sd, h2.sh.trans h1.sh, h2.got.trans h1.got, h2.rcv.trans h1.rcv, h2.sz.trans h1.sz, h2.hd.trans h1.hd⟩
theorem SndOk.kept {s t : StV} {f : FrV} (h : SndOk s f t) : Kept s t := by
  cases h.h <;> exact ⟨rfl, rfl, rfl, rfl, rfl, rfl, rfl⟩
theorem SndOk.done {s t : StV} {f : FrV} (h : SndOk s f t) (hk : f.kind = 2 ∨ f.kind = 3) : t.done = false := by
  cases h.h with
  | data => exact h.d
  | fin => exact h.d
  | stat => omega
  | reset => omega
structure More (s t : StV) : Prop where
  id : t.id = s.id
  sd : t.side = s.side
  sh : t.shape = s.shape
  sent : t.sent = s.sent
  se : t.se = s.se
  sz : t.snd.size = s.snd.size
  hd : t.snd.held = s.snd.held
  done : t.done = s.done
  got : s.got ≤ t.got
  ge : s.ge = true → t.ge = true
  v : VS t
theorem FQ {s : StV} (h : VS s) (hh : s.snd.held = 0) : VS (ei s) := by
  have := aR.1 h.sn
  exact ⟨h.id, h.sd, h.sh, aR.2 ⟨this.1, this.2.1, (show (0 : Int) ≤ 1048576 by decide), by rw [show (ei s).snd.held = s.snd.held from rfl]; omega, (show (1048576 : Int) ≤ 1048576 by decide), by show 1048576 + s.snd.held ≤ 1048576; omega⟩, h.rv, h.rq, h.rs, h.dn, h.nd⟩
theorem More.early {s t : StV} (h : More s t) (hs : s.side ≠ 1) (he : iL s = false) : iL t = false := by
  have e2 : ¬ t.side = 1 := by rw [h.sd]; exact hs
  have hg := h.got
  have hge := h.ge
  unfold iL jA ng rZ at he ⊢
  rw [if_neg hs, if_neg hs, if_neg hs] at he
  rw [if_neg e2, if_neg e2, if_neg e2, h.sent, h.sh]
  simp only [Bool.or_eq_false_iff, decide_eq_false_iff_not, Bool.and_eq_false_iff, Bool.not_eq_false'] at he ⊢
  refine ⟨⟨by omega, he.1.2⟩, he.2.imp (fun h => h) hge⟩
theorem More.send {s t s' : StV} {f : FrV} (h : More s t) (hl : f.kind = 2 → au f.data ≤ t.snd.left) (ho : SndOk s f s') : ∃ t', SndOk t f t' ∧ (t'.done = true ∧ s'.done = true ∨ More s' t') := by
  have hv := ho.v
  have hd := ho.d
  have hm := h.done
  have base : ∀ t', Gx t f t' → SndOk t f t' := fun t' hh => ⟨fU.2 h.v, ho.fe, by rw [ho.i, h.id], by rw [h.done, hd], hh⟩
  cases ho.h with
  | data hk he hm2 hz _ =>
    have hh := base _ (.data hk (by rw [h.se, he]) (by rw [h.sent]; unfold jb at hm2 ⊢; rw [h.sd, h.sh]; exact hm2) (by rw [h.sz]; exact hz) (hl hk))
    exact ⟨_, hh, .inr ⟨h.id, h.sd, h.sh, by show t.sent + 1 = s.sent + 1; rw [h.sent], h.se, h.sz, h.hd, h.done, h.got, h.ge, jk hh⟩⟩
  | fin hk he hs hm2 =>
    have hh := base _ (.fin hk (by rw [h.se, he]) (by rw [h.sd, hs]) (by rw [h.sent, h.sh]; exact hm2))
    exact ⟨_, hh, .inr ⟨h.id, h.sd, h.sh, h.sent, rfl, h.sz, h.hd, h.done, h.got, h.ge, jk hh⟩⟩
  | stat hk hs hm2 =>
    have hh := base _ (.stat hk (by rw [h.sd]; exact hs) (fun e => h.early hs (hm2 e)))
    exact ⟨_, hh, .inl ⟨rfl, rfl⟩⟩
  | reset hk =>
    have hh := base _ (.reset hk)
    exact ⟨_, hh, .inl ⟨rfl, rfl⟩⟩
theorem More.ful {s t : StV} (h : More s t) (h0 : t.snd.held = 0) : More (ei s) (ei t) :=
  ⟨h.id, h.sd, h.sh, h.sent, h.se, h.sz, h.hd, h.done, h.got, h.ge, FQ h.v h0⟩
theorem rA {s : StV} {f : FrV} (h : s.done = true) : (bh s f).err ≠ 0 := fun e => by
  have := (fH e).d
  rw [h] at this; cases this
theorem pE {s : StV} {f : FrV} {l : List FrV} (h : s.done = true) : (dF (f :: l) s).err ≠ 0 := by
  have h1 : (bh (ei s) f).err ≠ 0 := rA (s := ei s) h
  rw [dF, if_pos h1]
  exact h1
theorem fI {s : StV} {f : FrV} {l : List FrV} : (dF (f :: l) s).err = 0 ↔ (bh (ei s) f).err = 0 ∧ (dF l (bh (ei s) f).st).err = 0 := by
  rw [dF]
  by_cases h : (bh (ei s) f).err = 0
  · rw [if_neg (by simpa using h)]
    exact ⟨fun e => ⟨h, e⟩, fun e => e.2⟩
  · rw [if_pos h]
    exact ⟨fun e => absurd e h, fun e => absurd e.1 h⟩
theorem uV {f : FrV} : ∀ {l : List FrV} {s : StV}, (dF l s).err = 0 → (bh (dF l s).st f).err = 0 → (dF (l ++ [f]) s).err = 0
  | [], s, _, h => by
    rw [List.nil_append, fI]
    exact ⟨h, rfl⟩
  | g :: l, s, h1, h2 => by
    rw [fI] at h1
    rw [List.cons_append, fI]
    rw [dF, if_neg (by simpa using h1.1)] at h2
    exact ⟨h1.1, uV h1.2 h2⟩
theorem mB : ∀ {l : List FrV} {s t : StV}, (∀ f ∈ l, au f.data ≤ 1048576) → More s t → t.snd.held = 0 → (dF l s).err = 0 → (dF l t).err = 0
  | [], _, _, _, _, _, _ => rfl
  | f :: l, s, t, hc, hm, h0, h => by
    rw [fI] at h ⊢
    obtain ⟨t', h1, h2⟩ := (hm.ful h0).send (fun _ => by show _ ≤ (1048576 : Int); exact hc f (List.mem_cons_self ..)) (fH h.1)
    have e1 := ij h1
    rw [e1]
    refine ⟨rfl, ?_⟩
    have hc' := fun x hx => hc x (List.mem_cons_of_mem f hx)
    rcases h2 with ⟨h2, h3⟩ | h2
    · cases l with
      | nil => rfl
      | cons g l => exact absurd h.2 (pE h3)
    · refine mB hc' h2 ?_ h.2
      show t'.snd.held = 0
      rw [h1.kept.hd]; exact h0
theorem mD : ∀ {l : List FrV} {s : StV}, (dF l s).err = 0 → ∀ f ∈ l, au f.data ≤ 1048576
  | [], _, _, _, hg => by cases hg
  | f :: l, s, h, g, hg => by
    rw [fI] at h
    rcases List.mem_cons.1 hg with rfl | hg
    · have := (fw (fH h.1).fe).1
      unfold au
      split <;> omega
    · exact mD h.2 g hg
theorem B3 : ∀ {l : List FrV} {s : StV}, (dF l s).err = 0 → ∀ f ∈ l, ay f = 0 ∧ f.strm = s.id
  | [], _, _, _, hg => by cases hg
  | f :: l, s, h, g, hg => by
    rw [fI] at h
    rcases List.mem_cons.1 hg with rfl | hg
    · exact ⟨(fH h.1).fe, (fH h.1).i⟩
    · have := B3 h.2 g hg
      exact ⟨this.1, this.2.trans (fH h.1).kept.id⟩
theorem uW {s : StV} {f : FrV} (v : VS s) (hl : f.kind = 2 → au f.data ≤ s.snd.left) (h : (bh (ei s) f).err = 0) : SndOk s f (bh s f).st ∧ (bh s f).err = 0 ∧ ((bh s f).st.done = true ∧ (bh (ei s) f).st.done = true ∨ More (bh (ei s) f).st (bh s f).st) := by
  have hm : More (ei s) s := ⟨rfl, rfl, rfl, rfl, rfl, rfl, rfl, rfl, Int.le_refl _, fun h => h, v⟩
  obtain ⟨t', h1, h2⟩ := hm.send hl (fH h)
  have e1 := ij h1
  rw [e1]
  exact ⟨h1, rfl, h2⟩
end Go.Proofs.YtklcfjlmlbnkaaaGreatDoor.Y
namespace Go.Proofs.YtklcfjlmlbnkaaaGreatDoor.Y
inductive FU (s : StV) (f : FrV) : StV → Prop
  | old (hd : s.done = true) : FU s f s
  | data (hd : s.done = false) (hk : f.kind = 2) (he : s.ge = false) (hm : s.got < jb s (s.side != 1)) (hz : au f.data ≤ s.rcv.size) (hl : au f.data ≤ s.rcv.left) : FU s f { s with got := s.got + 1, rcv := ⟨s.rcv.size, s.rcv.left - au f.data, s.rcv.held + au f.data⟩ }
  | fin (hd : s.done = false) (hk : f.kind = 3) (he : s.ge = false) (hs : s.side ≠ 1) (hm : c1 s.shape ≤ s.got) : FU s f { s with ge := true }
  | stat (hd : s.done = false) (hk : f.kind = 4) (hs : s.side = 1) (hm : (aV f.data).code = 0 → iL s = false) : FU s f (dN s (aV f.data).code (aV f.data).text)
  | reset (hd : s.done = false) (hk : f.kind = 5) : FU s f (dN s f.num ⟨#[]⟩)
  | win (hd : s.done = false) (hk : f.kind = 6) (hm : f.num ≤ 1048576 - s.snd.left - s.snd.held) (hn : 1 ≤ f.num) : FU s f { s with snd := ⟨s.snd.size, s.snd.left + f.num, s.snd.held⟩ }
structure RcvOk (s : StV) (f : FrV) (t : StV) : Prop where
  v : df s = true
  fe : ay f = 0
  i : f.strm = s.id
  k : 2 ≤ f.kind ∧ f.kind ≤ 6
  h : FU s f t
theorem B4 {s : StV} {f : FrV} (h : (bp s f).err = 0) : RcvOk s f (bp s f).st := by
  unfold bp at h ⊢
  split at h
  · cases h
  rename_i g0
  rw [if_neg g0]
  have hv : df s = true := by simpa using fun e => g0 (.inl e)
  have hf : ay f = 0 := Decidable.not_not.1 fun e => g0 (.inr (.inl e))
  have hi : f.strm = s.id := Decidable.not_not.1 fun e => g0 (.inr (.inr (.inl e)))
  have hkk : 2 ≤ f.kind ∧ f.kind ≤ 6 := by
    have := fun e => g0 (.inr (.inr (.inr e)))
    omega
  refine ⟨hv, hf, hi, hkk, ?_⟩
  split at h
  · rename_i hd
    rw [if_pos hd]
    exact .old hd
  rename_i hd
  rw [if_neg hd]
  have hd' : s.done = false := eq_false_of_ne_true hd
  split at h
  · rename_i hk
    rw [if_pos hk]
    split at h
    · cases h
    rename_i g1
    rw [if_neg g1]
    split at h
    · cases h
    rename_i g2
    rw [if_neg g2]
    split at h
    · cases h
    rename_i g3
    rw [if_neg g3]
    split at h
    · rename_i g4; exact absurd h g4
    rename_i g4
    rw [if_neg g4]
    obtain ⟨_, _, t3, t4⟩ := D9 (Decidable.not_not.1 g4)
    rw [t4]
    exact .data hd' hk (eq_false_of_ne_true g1) (by omega) (by omega) t3
  · rename_i hk2
    rw [if_neg hk2]
    split at h
    · rename_i hk
      rw [if_pos hk]
      split at h
      · cases h
      rename_i g1
      rw [if_neg g1]
      split at h
      · cases h
      rename_i g2
      rw [if_neg g2]
      exact .fin hd' hk (eq_false_of_ne_true fun e => g1 (.inl e)) (fun e => g1 (.inr e)) (by omega)
    · rename_i hk3
      rw [if_neg hk3]
      split at h
      · rename_i hk
        rw [if_pos hk]
        split at h
        · cases h
        rename_i g1
        rw [if_neg g1]
        split at h
        · cases h
        rename_i g2
        rw [if_neg g2, eg, if_neg (by omega)]
        exact .stat hd' hk (Decidable.not_not.1 g1) (fun e => eq_false_of_ne_true fun e' => g2 ⟨e, e'⟩)
      · rename_i hk4
        rw [if_neg hk4]
        split at h
        · rename_i hk
          rw [if_pos hk, eg, if_pos hk]
          exact .reset hd' hk
        · rename_i hk5
          rw [if_neg hk5]
          split at h
          · rename_i g; exact absurd h g
          rename_i g
          rw [if_neg g]
          obtain ⟨_, t2, t3, t4⟩ := og (Decidable.not_not.1 g)
          rw [t4]
          exact .win hd' (by omega) t3 t2
theorem uX {s t : StV} {f : FrV} (h : RcvOk s f t) : bp s f = ⟨t, 0⟩ := by
  obtain ⟨hv, hf, hi, hkk, h⟩ := h
  have v := fU.1 hv
  unfold bp
  rw [if_neg (by rw [hv, hf, hi]; simp; omega)]
  have nd : ∀ {d}, d = false → ¬ d = true := fun e e' => by rw [e] at e'; cases e'
  cases h with
  | old hd => rw [if_pos hd]
  | data hd hk he hm hz hl =>
    have ht := pA v.rv (show 0 ≤ au f.data by have := dz f.data; omega) hl
    rw [if_neg (nd hd), if_pos hk, if_neg (nd he), if_neg (by omega), if_neg (by omega), ht, if_neg (by simp)]
  | fin hd hk he hs hm => rw [if_neg (nd hd), if_neg (by omega), if_pos hk, if_neg (by rintro (e | e); exact nd he e; exact hs e), if_neg (by omega)]
  | stat hd hk hs hm => rw [if_neg (nd hd), if_neg (by omega), if_neg (by omega), if_pos hk, if_neg (by simpa using hs), if_neg (by rintro ⟨e, e'⟩; rw [hm e] at e'; cases e'), eg, if_neg (by omega)]
  | reset hd hk => rw [if_neg (nd hd), if_neg (by omega), if_neg (by omega), if_neg (by omega), if_pos hk, eg, if_pos hk]
  | win hd hk hm hn => rw [if_neg (nd hd), if_neg (by omega), if_neg (by omega), if_neg (by omega), if_neg (by omega), B1 v.sn hn hm, if_neg (by simp)]
theorem uY {s t : StV} {f : FrV} (h : RcvOk s f t) : VS t := by
  obtain ⟨hv, hf, hi, hkk, h⟩ := h
  have v := fU.1 hv
  cases h with
  | old => exact v
  | data hd hk he hm hz hl =>
    have hp := dz f.data
    have rq := v.rq
    have rs := v.rs
    obtain ⟨n1, n2, n3, n4⟩ := v.nd hd
    refine ⟨v.id, v.sd, v.sh, v.sn, sG v.rv (by omega) hl, ?_, ?_, fun e => ?_, fun _ => ?_⟩
    · unfold jA at rq ⊢
      unfold jb at hm
      rcases v.sd with e | e
      · rw [if_pos e] at rq
        dsimp only; rw [if_pos e]; exact rq
      · rw [if_neg (by omega)] at rq
        rw [if_pos (show (s.side != 1) = true by rw [e]; decide)] at hm
        dsimp only; rw [if_neg (by omega)]; omega
    · unfold ng at rs ⊢
      unfold jb at hm
      rcases v.sd with e | e
      · rw [if_pos e] at rs
        rw [if_neg (show ¬ (s.side != 1) = true by rw [e]; decide)] at hm
        dsimp only; rw [if_pos e]; omega
      · rw [if_neg (by omega)] at rs
        dsimp only; rw [if_neg (by omega)]; exact rs
    · dsimp only at e; rw [hd] at e; cases e
    · refine ⟨n1, fun e => ?_, n3, n4⟩
      have h2 := n2 e
      unfold jA at h2 ⊢
      split at h2
      · dsimp only; rw [if_pos (by assumption)]; omega
      · dsimp only; rw [if_neg (by assumption)]; omega
  | fin hd hk he hs hm =>
    obtain ⟨n1, n2, n3, n4⟩ := v.nd hd
    refine ⟨v.id, v.sd, v.sh, v.sn, v.rv, v.rq, v.rs, fun e => ?_, fun _ => ⟨?_, fun _ => ?_, n3, n4⟩⟩
    · dsimp only at e; rw [hd] at e; cases e
    · unfold uj at n1 ⊢; dsimp only; rw [if_neg hs] at n1 ⊢; exact n1
    · unfold jA; dsimp only; rw [if_neg hs]; exact hm
  | stat hd hk hs hm => exact v.done (xZ (B2 hf hk))
  | reset hd hk =>
    have := uU hf hk
    exact v.done (oe (by omega) (by omega))
  | win hd hk hm hn =>
    obtain ⟨n1, n2, n3, n4⟩ := v.nd hd
    exact ⟨v.id, v.sd, v.sh, oh v.sn hn hm, v.rv, v.rq, v.rs, fun e => (by dsimp only at e; rw [hd] at e; cases e), fun _ => ⟨n1, n2, n3, n4⟩⟩
structure Ha (s t : StV) : Prop where
  id : t.id = s.id
  sd : t.side = s.side
  sh : t.shape = s.shape
  sz : t.snd.size = s.snd.size
  hd : t.snd.held = s.snd.held
  rz : t.rcv.size = s.rcv.size
theorem RcvOk.kept {s t : StV} {f : FrV} (h : RcvOk s f t) : Ha s t := by
  cases h.h <;> exact ⟨rfl, rfl, rfl, rfl, rfl, rfl⟩
theorem RcvOk.more {s t : StV} {f : FrV} (h : RcvOk s f t) (hd : t.done = false) : More s t := by
  have v := uY h
  cases h.h with
  | old hd' => exact ⟨rfl, rfl, rfl, rfl, rfl, rfl, rfl, rfl, Int.le_refl _, fun h => h, v⟩
  | data hd' hk he hm hz hl => exact ⟨rfl, rfl, rfl, rfl, rfl, rfl, rfl, rfl, by show s.got ≤ s.got + 1; omega, fun h => h, v⟩
  | fin hd' hk he hs hm => exact ⟨rfl, rfl, rfl, rfl, rfl, rfl, rfl, rfl, Int.le_refl _, fun _ => rfl, v⟩
  | stat => cases hd
  | reset => cases hd
  | win hd' hk hm hn => exact ⟨rfl, rfl, rfl, rfl, rfl, rfl, rfl, rfl, Int.le_refl _, fun h => h, v⟩
theorem RcvOk.keepDone {s t : StV} {f : FrV} (h : RcvOk s f t) (hd : s.done = true) : t = s := by
  cases h.h with
  | old => rfl
  | data hd' => rw [hd] at hd'; cases hd'
  | fin hd' => rw [hd] at hd'; cases hd'
  | stat hd' => rw [hd] at hd'; cases hd'
  | reset hd' => rw [hd] at hd'; cases hd'
  | win hd' => rw [hd] at hd'; cases hd'
theorem ld (f : FrV) : 0 ≤ bE f := by
  unfold bE
  have := dz f.data
  split <;> omega
theorem jC {f : FrV} (h : f.kind = 2) : bE f = au f.data := by unfold bE; rw [if_pos h]
def jD (l : List FrV) : Int := (l.map bE).sum
theorem jE : jD [] = 0 := rfl
theorem kA (f : FrV) (l : List FrV) : jD (f :: l) = bE f + jD l := by unfold jD; simp
theorem pF : ∀ l : List FrV, 0 ≤ jD l
  | [] => Int.le_refl _
  | f :: l => by rw [kA]; have := pF l; have := ld f; omega
def H0 (w : WinV) (n : Int) : WinV := ⟨w.size, w.left - n, w.held⟩
inductive FV : List FrV → StV → WinV → List FrV → StV → WinV → List FrV → Prop
  | nil {s : StV} {w : WinV} : FV [] s w [] s w []
  | stop {f : FrV} {r : List FrV} {s : StV} {w : WinV} (h : s.snd.left < bE f ∨ w.left < bE f) : FV (f :: r) s w [] s w (f :: r)
  | step {f : FrV} {r q rest : List FrV} {s t s' : StV} {w w' : WinV} (h1 : bE f ≤ s.snd.left) (h2 : bE f ≤ w.left) (h3 : SndOk s f t) (h4 : FV r t (H0 w (bE f)) q s' w' rest) : FV (f :: r) s w (f :: q) s' w' rest
theorem uZ {s t : StV} {f : FrV} {r : List FrV} (v : VS s) (h0 : s.snd.held = 0) (hl : bE f ≤ s.snd.left) (h : (dF (f :: r) s).err = 0) (ht : SndOk s f t) : (dF r t).err = 0 ∧ (t.done = true → r = []) := by
  rw [fI] at h
  obtain ⟨_, h2, h3⟩ := uW v (fun hk => by rw [← jC hk]; exact hl) h.1
  rw [ij ht] at h3
  dsimp only at h3
  have hr : t.done = true → r = [] := fun hd => by
    have h4 : (bh (ei s) f).st.done = true := by
      rcases h3 with h3 | h3
      · exact h3.2
      · rw [← h3.done]; exact hd
    cases r with
    | nil => rfl
    | cons g r => exact absurd h.2 (pE h4)
  refine ⟨?_, hr⟩
  rcases h3 with h3 | h3
  · rw [hr h3.1]; rfl
  · exact mB (mD h.2) h3 (by rw [ht.kept.hd]; exact h0) h.2
theorem B5 : ∀ (l : List FrV) (s : StV) (w : WinV) (o : List FrV), VS s → s.snd.held = 0 → aS w = true → (dF l s).err = 0 → ∃ q, FV l s w q (jO l s w o).st (jO l s w o).w (jO l s w o).ob ∧ (jO l s w o).ou = o ++ q
  | [], s, w, o, _, _, _, _ => ⟨[], .nil, by rw [jO]; simp⟩
  | f :: r, s, w, o, v, h0, hw, h => by
    rw [jO]
    by_cases hA : s.snd.left < bE f ∨ w.left < bE f
    · rw [if_pos hA]
      exact ⟨[], .stop hA, by simp⟩
    have h1 : bE f ≤ s.snd.left := by omega
    have h2 : bE f ≤ w.left := by omega
    obtain ⟨g1, g2, _⟩ := uW v (fun hk => by rw [← jC hk]; exact h1) (fI.1 h).1
    obtain ⟨g3, g4⟩ := uZ v h0 h1 h g1
    have ht := jy hw (ld f) h2
    have hw' : aS (H0 w (bE f)) = true := pB hw (ld f) h2
    rw [if_neg hA, if_neg (by rw [g2]; simp), if_neg (by rw [ht]; simp), ht]
    dsimp only
    cases hd : (bh s f).st.done with
    | true =>
      rw [if_pos rfl]
      rw [g4 hd]
      exact ⟨[f], .step h1 h2 g1 .nil, rfl⟩
    | false =>
      rw [if_neg (by simp)]
      obtain ⟨q, i1, i2⟩ := B5 r (bh s f).st (H0 w (bE f)) (o ++ [f]) (jk g1) (by rw [g1.kept.hd]; exact h0) hw' g3
      exact ⟨f :: q, .step h1 h2 g1 i1, by rw [show (⟨w.size, w.left - bE f, w.held⟩ : WinV) = H0 w (bE f) from rfl, i2]; simp⟩
structure Hb (l : List FrV) (s : StV) (w : WinV) (q : List FrV) (s' : StV) (w' : WinV) (rest : List FrV) : Prop where
  vs : VS s'
  kp : Kept s s'
  wk : aS w' = true
  ws : w'.size = w.size
  wh : w'.held = w.held
  wl : w'.left = w.left - jD q
  sp : l = q ++ rest
  ah : (dF rest s').err = 0
  st : ∀ f r, rest = f :: r → s'.snd.left < bE f ∨ w'.left < bE f
  dn : s'.done = true → rest = []
  fr : ∀ f ∈ q, ay f = 0 ∧ f.strm = s.id
  sl : s'.snd.left = s.snd.left - jD q
theorem zE : ∀ {l : List FrV} {s : StV} {w : WinV} {q : List FrV} {s' : StV} {w' : WinV} {rest : List FrV}, FV l s w q s' w' rest → VS s → s.snd.held = 0 → aS w = true → (dF l s).err = 0 → (∀ f ∈ l, f.kind = 2 ∨ f.kind = 3 ∨ f.kind = 4) → Hb l s w q s' w' rest := by
  intro l s w q s' w' rest h
  induction h with
  | nil => intro v h0 hw ha hk; exact ⟨v, Kept.refl _, hw, rfl, rfl, by rw [jE]; omega, rfl, ha, fun f r e => (by cases e), fun _ => rfl, fun f hf => (by cases hf), by rw [jE]; omega⟩
  | @stop f r s w hst =>
    intro v h0 hw ha hk
    refine ⟨v, Kept.refl _, hw, rfl, rfl, by rw [jE]; omega, rfl, ha, fun g r' e => ?_, fun hd => absurd ha (pE hd), fun f hf => (by cases hf), by rw [jE]; omega⟩
    obtain ⟨rfl, rfl⟩ := (by simpa using e : f = g ∧ r = r')
    exact hst
  | @step f r q rest s t s' w w' h1 h2 h3 h4 ih =>
    intro v h0 hw ha hk
    obtain ⟨g1, g2⟩ := uZ v h0 h1 ha h3
    have i := ih (jk h3) (by rw [h3.kept.hd]; exact h0) (pB hw (ld f) h2) g1 (fun x hx => hk x (List.mem_cons_of_mem _ hx))
    have wl := i.wl
    have sl := i.sl
    refine ⟨i.vs, h3.kept.trans i.kp, i.wk, i.ws, i.wh, ?_, by rw [i.sp]; rfl, i.ah, i.st, i.dn, fun x hx => ?_, ?_⟩
    · rw [kA]
      show w'.left = _
      rw [wl]
      show w.left - bE f - jD q = _
      omega
    · rcases List.mem_cons.1 hx with rfl | hx
      · exact ⟨h3.fe, h3.i⟩
      · exact ⟨(i.fr x hx).1, (i.fr x hx).2.trans h3.kept.id⟩
    · rw [kA, sl]
      have e : t.snd.left = s.snd.left - bE f := by
        have hkf := hk f (List.mem_cons_self ..)
        cases h3.h with
        | data hk => rw [jC hk]
        | fin hk => rw [bE, if_neg (by omega)]; show s.snd.left = _; omega
        | stat hk => rw [bE, if_neg (by omega)]; show s.snd.left = _; omega
        | reset hk => omega
      omega
end Go.Proofs.YtklcfjlmlbnkaaaGreatDoor.Y
namespace Go.Proofs.YtklcfjlmlbnkaaaGreatDoor.Y
structure PK (sd sz la : Int) (k : KR) : Prop where
  vs : VS k.st
  sd : k.st.side = sd
  z1 : k.st.snd.size = sz
  z2 : k.st.rcv.size = sz
  h0 : k.st.snd.held = 0
  he : bQ k.hd = 0
  ib : ∀ m ∈ k.ib, m.size ≤ 16384
  la : k.st.id ≤ la
  dn : k.st.done = true → k.ob = []
  un : k.st.done = false → aN k.ib ≤ k.st.rcv.held
  ah : k.st.done = false → (dF k.ob k.st).err = 0
  kd : ∀ f ∈ k.ob, f.kind = 2 ∨ f.kind = 3 ∨ f.kind = 4
def NF (sw : WinV) (k : KR) : Prop := ∀ f r, k.ob = f :: r → k.st.snd.left < bE f ∨ sw.left < bE f
theorem PK.ahd {sd sz la : Int} {k : KR} (h : PK sd sz la k) : (dF k.ob k.st).err = 0 := by
  cases hd : k.st.done with
  | true => rw [h.dn hd]; rfl
  | false => exact h.ah hd
theorem PK.la' {sd sz la la' : Int} {k : KR} (h : PK sd sz la k) (hl : la ≤ la') : PK sd sz la' k := ⟨h.vs, h.sd, h.z1, h.z2, h.h0, h.he, h.ib, Int.le_trans h.la hl, h.dn, h.un, h.ah, h.kd⟩
structure VB (c : NL) : Prop where
  sd : c.sd = 1 ∨ c.sd = 2
  sz : 1 ≤ c.sz ∧ c.sz ≤ 1048576
  sw : aS c.sw = true
  rw : aS c.rw = true
  ss : c.sw.size = c.sz
  rs : c.rw.size = c.sz
  sh : c.sw.held = 0
  la : 0 ≤ c.la ∧ c.la ≤ 2147483647
  aw : 0 ≤ c.aw ∧ c.aw ≤ 2147483648
  n1 : c.sd = 1 → c.nx = c.la + 1
  n2 : c.sd = 2 → c.nx = 1 ∧ c.aw ≤ c.la + 1
  pg : c.pg.length ≤ 16
  pn : ∀ n ∈ c.pg, 0 ≤ n ∧ n ≤ 4294967295
  cn : dO c.ks ≤ 64
  pk : ∀ k ∈ c.ks, PK c.sd c.sz c.la k
  asc : (c.ks.map (·.st.id)).Pairwise (· < ·)
  ou : ∀ f ∈ c.ou, ay f = 0
  cl : c.cl = true → c.ou = [] ∧ dO c.ks = 0
  tt : aP c.ks ≤ c.rw.held
structure VN (c : NL) : Prop extends VB c where
  nf : ∀ k ∈ c.ks, NF c.sw k
theorem eW : ∀ l : List ByteArray, 0 ≤ aN l
  | [] => Int.le_refl _
  | s :: r => by rw [aN]; have := eW r; have := dz s; omega
theorem kB (s : ByteArray) : ∀ l : List ByteArray, aN (l ++ [s]) = aN l + au s
  | [] => by simp [aN]
  | a :: r => by rw [List.cons_append, aN, kB s r, aN]; omega
theorem eC : ∀ l : List KR, 0 ≤ aP l
  | [] => Int.le_refl _
  | k :: r => by rw [aP]; have := eC r; have := eW k.ib; omega
theorem va : ∀ a b : List KR, aP (a ++ b) = aP a + aP b
  | [], b => by simp [aP]
  | k :: a, b => by rw [List.cons_append, aP, va a b, aP]; omega
theorem dh {k' k : KR} : ∀ {l : List KR} {i : Nat}, l[i]? = some k → aP (l.set i k') = aP l - aN k.ib + aN k'.ib
  | a :: l, 0, h => by
    obtain rfl := (by simpa using h : a = k)
    rw [List.set_cons_zero, aP, aP]; omega
  | a :: l, i + 1, h => by
    have h1 : l[i]? = some k := by simpa using h
    rw [List.set_cons_succ, aP, dh h1, aP]; omega
theorem pG {k : KR} : ∀ {l : List KR} {i : Nat}, l[i]? = some k → aP (l.eraseIdx i) = aP l - aN k.ib
  | a :: l, 0, h => by
    obtain rfl := (by simpa using h : a = k)
    rw [List.eraseIdx_cons_zero, aP]; omega
  | a :: l, i + 1, h => by
    have h1 : l[i]? = some k := by simpa using h
    rw [List.eraseIdx_cons_succ, aP, pG h1, aP]; omega
theorem yd {k' k : KR} (hd : k.st.done = true → k'.st.done = true) : ∀ {l : List KR} {i : Nat}, l[i]? = some k → dO (l.set i k') ≤ dO l
  | a :: l, 0, h => by
    obtain rfl := (by simpa using h : a = k)
    rw [List.set_cons_zero]
    unfold dO
    rw [List.countP_cons, List.countP_cons]
    cases h1 : a.st.done with
    | true => rw [hd h1]; simp
    | false => simp; split <;> omega
  | a :: l, i + 1, h => by
    have h1 : l[i]? = some k := by simpa using h
    have := yd hd h1
    unfold dO at this ⊢
    rw [List.set_cons_succ, List.countP_cons, List.countP_cons]
    omega
theorem wS {k' k : KR} (hid : k'.st.id = k.st.id) {l : List KR} {i : Nat} (h : l[i]? = some k) : (l.set i k').map (·.st.id) = l.map (·.st.id) := by
  rw [List.map_set, hid]
  obtain ⟨h1, h2⟩ := List.getElem?_eq_some_iff.1 h
  apply List.ext_getElem?
  intro j
  by_cases hj : i = j
  · subst hj
    rw [List.getElem?_set_self (by rw [List.length_map]; exact h1), List.getElem?_map, h]; rfl
  · rw [List.getElem?_set_ne hj]
theorem vd {k' x : KR} {l : List KR} {i : Nat} (h : x ∈ l.set i k') : x = k' ∨ x ∈ l := by
  rcases List.mem_or_eq_of_mem_set h with h | h
  · exact .inr h
  · exact .inl h
theorem VB.upd {c : NL} (h : VB c) {i : Nat} {k k' : KR} (hi : c.ks[i]? = some k) (hp : PK c.sd c.sz c.la k') (hid : k'.st.id = k.st.id) (hdn : k.st.done = true → k'.st.done = true) {sw' rw' : WinV} {ou' : List FrV}
    (w1 : aS sw' = true) (w2 : sw'.size = c.sz) (w3 : sw'.held = 0) (r1 : aS rw' = true) (r2 : rw'.size = c.sz) (ho : ∀ f ∈ ou', ay f = 0) (hcl : c.cl = true → ou' = []) (ht : aP (c.ks.set i k') ≤ rw'.held) :
    VB { c with sw := sw', rw := rw', ks := c.ks.set i k', ou := ou' } := by
  have hc := yd hdn hi
  exact ⟨h.sd, h.sz, w1, r1, w2, r2, w3, h.la, h.aw, h.n1, h.n2, h.pg, h.pn, Nat.le_trans hc h.cn, fun x hx => (vd hx).elim (fun e => e ▸ hp) (h.pk x), by
    show ((c.ks.set i k').map (·.st.id)).Pairwise (· < ·)
    rw [wS hid hi]; exact h.asc, ho, fun e => ⟨hcl e, by have := (h.cl e).2; show dO (c.ks.set i k') = 0; omega⟩, ht⟩
theorem NF.less {sw sw' : WinV} {k : KR} (h : NF sw k) (hl : sw'.left ≤ sw.left) : NF sw' k := fun f r e => (h f r e).imp id (fun h => by omega)
theorem VN.upd {c : NL} (h : VN c) {i : Nat} {k k' : KR} (hi : c.ks[i]? = some k) (hp : PK c.sd c.sz c.la k') (hid : k'.st.id = k.st.id) (hdn : k.st.done = true → k'.st.done = true) {sw' rw' : WinV} {ou' : List FrV}
    (w1 : aS sw' = true) (w2 : sw'.size = c.sz) (w3 : sw'.held = 0) (w4 : sw'.left ≤ c.sw.left) (hn : NF sw' k') (r1 : aS rw' = true) (r2 : rw'.size = c.sz) (ho : ∀ f ∈ ou', ay f = 0) (hcl : c.cl = true → ou' = []) (ht : aP (c.ks.set i k') ≤ rw'.held) :
    VN { c with sw := sw', rw := rw', ks := c.ks.set i k', ou := ou' } :=
  ⟨h.toVB.upd hi hp hid hdn w1 w2 w3 r1 r2 ho hcl ht, fun x hx => (vd hx).elim (fun e => e ▸ hn) (fun hx => (h.nf x hx).less w4)⟩
theorem eX {c : NL} {i : Nat} {k : KR} (h : c.ks[i]? = some k) : mK c i = k := by unfold mK; rw [h]; rfl
theorem cg {c : NL} {i : Nat} {k : KR} (h : c.ks[i]? = some k) (g : KR → KR) : eZ c i g = { c with ks := c.ks.set i (g k) } := by unfold eZ; rw [eX h]
theorem ye {c : NL} (h : VB c) (hc : c.cl = true) : ∀ k ∈ c.ks, k.st.done = true := fun k hk => by
  have h1 := (h.cl hc).2
  unfold dO at h1
  have := List.countP_eq_zero.1 h1 k hk
  simpa using this
structure It (c : NL) (k : KR) (q : List FrV) (r : HJ) : Prop where
  run : FV k.ob k.st c.sw q r.st r.w r.ob
  fac : Hb k.ob k.st c.sw q r.st r.w r.ob
  ou : r.ou = c.ou ++ q
  pk : PK c.sd c.sz c.la { k with st := r.st, ob := r.ob }
  nf : NF r.w { k with st := r.st, ob := r.ob }
  dn : k.st.done = true → r.st.done = true ∧ q = []
theorem yf {c : NL} {k : KR} (hw : aS c.sw = true) (h : PK c.sd c.sz c.la k) : ∃ q, It c k q (jO k.ob k.st c.sw c.ou) := by
  obtain ⟨q, hr, ho⟩ := B5 k.ob k.st c.sw c.ou h.vs h.h0 hw h.ahd
  have hf := zE hr h.vs h.h0 hw h.ahd h.kd
  have hdn : k.st.done = true → (jO k.ob k.st c.sw c.ou).st.done = true ∧ q = [] := fun hd => by
    have e := h.dn hd
    rw [e]
    refine ⟨hd, ?_⟩
    rw [e, jO] at hr
    cases hr; rfl
  generalize jO k.ob k.st c.sw c.ou = r at *
  refine ⟨q, hr, hf, ho, ?_, hf.st, hdn⟩
  refine ⟨hf.vs, by rw [← h.sd]; exact hf.kp.sd, by rw [← h.z1]; exact hf.kp.sz, by rw [← h.z2]; show r.st.rcv.size = _; rw [hf.kp.rcv], by rw [← h.h0]; exact hf.kp.hd, h.he, h.ib, by rw [show ({ k with st := r.st, ob := r.ob } : KR).st.id = k.st.id from hf.kp.id]; exact h.la, hf.dn, fun hd => ?_, fun _ => hf.ah, fun f hx => h.kd f (by rw [hf.sp]; exact List.mem_append_right _ hx)⟩
  show aN k.ib ≤ r.st.rcv.held
  rw [hf.kp.rcv]
  cases hd0 : k.st.done with
  | true => rw [(hdn hd0).1] at hd; cases hd
  | false => exact h.un hd0
theorem jl {c : NL} {i : Nat} {k : KR} (h : c.ks[i]? = some k) : gu c i = { c with sw := (jO k.ob k.st c.sw c.ou).w, ks := c.ks.set i { k with st := (jO k.ob k.st c.sw c.ou).st, ob := (jO k.ob k.st c.sw c.ou).ob }, ou := (jO k.ob k.st c.sw c.ou).ou } := by
  unfold gu wq
  rw [eX h, cg h]
theorem VB.son {c : NL} (h : VB c) {i : Nat} {k : KR} (hi : c.ks[i]? = some k) : VB (gu c i) ∧ (gu c i).sw.left ≤ c.sw.left ∧ (∀ k', (gu c i).ks[i]? = some k' → NF (gu c i).sw k') := by
  have hk := h.pk k (List.mem_of_getElem? hi)
  obtain ⟨q, hf⟩ := yf h.sw hk
  rw [jl hi]
  generalize jO k.ob k.st c.sw c.ou = r at *
  have hq := pF q
  have hl := hf.fac.wl
  refine ⟨?_, ?_, fun k' h' => ?_⟩
  · refine h.upd (rw' := c.rw) hi hf.pk hf.fac.kp.id (fun e => (hf.dn e).1) hf.fac.wk (by rw [hf.fac.ws]; exact h.ss) (by rw [hf.fac.wh]; exact h.sh) h.rw h.rs (fun f hx => ?_) (fun e => ?_) ?_
    · rw [hf.ou] at hx
      rcases List.mem_append.1 hx with hx | hx
      · exact h.ou f hx
      · exact (hf.fac.fr f hx).1
    · have hd := ye h e k (List.mem_of_getElem? hi)
      rw [hf.ou, (hf.dn hd).2, (h.cl e).1]; rfl
    · rw [dh hi]
      have := h.tt
      show aP c.ks - aN k.ib + aN k.ib ≤ c.rw.held
      omega
  · show r.w.left ≤ c.sw.left; omega
  · have h1 : i < c.ks.length := (List.getElem?_eq_some_iff.1 hi).1
    have h2 : (c.ks.set i { k with st := r.st, ob := r.ob })[i]? = some k' := h'
    rw [List.getElem?_set_self h1] at h2
    obtain rfl := Option.some.inj h2
    exact hf.nf
theorem VN.son {c : NL} (h : VB c) {i : Nat} {k : KR} (hi : c.ks[i]? = some k) (hn : ∀ j k', j ≠ i → c.ks[j]? = some k' → NF c.sw k') : VN (gu c i) := by
  obtain ⟨h1, h2, h3⟩ := h.son hi
  refine ⟨h1, fun x hx => ?_⟩
  obtain ⟨j, hj⟩ := List.getElem?_of_mem hx
  by_cases e : j = i
  · subst e; exact h3 x hj
  · refine (hn j x e ?_).less h2
    rw [jl hi] at hj
    rw [← hj]
    exact (List.getElem?_set_ne (fun e' => e e'.symm)).symm
end Go.Proofs.YtklcfjlmlbnkaaaGreatDoor.Y
namespace Go.Proofs.YtklcfjlmlbnkaaaGreatDoor.Y
theorem IY {id n : Int} (h0 : 0 ≤ id) (h1 : id ≤ 2147483647) (h2 : 1 ≤ n) (h3 : n ≤ 1048576) : ay ⟨6, id, n, emptyB⟩ = 0 := by
  unfold ay eA fQ ir
  have e : emptyB.size = 0 := rfl
  simp [e]; omega
theorem Iu {id n : Int} (h0 : 1 ≤ id) (h1 : id ≤ 2147483647) (h2 : 1 ≤ n) (h3 : n ≤ 13) : ay ⟨5, id, n, emptyB⟩ = 0 := by
  unfold ay eA fQ ir
  have e : emptyB.size = 0 := rfl
  simp [e]; omega
theorem Ju {n : Int} (h2 : 0 ≤ n) (h3 : n ≤ 2147483647) : ay ⟨9, 0, n, emptyB⟩ = 0 := by
  unfold ay eA fQ ir
  have e : emptyB.size = 0 := rfl
  simp [e]; omega
theorem Jv {n : Int} (h2 : 0 ≤ n) (h3 : n ≤ 4294967295) : ay ⟨8, 0, n, emptyB⟩ = 0 := by
  unfold ay eA fQ ir
  have e : emptyB.size = 0 := rfl
  simp [e]; omega
theorem gz {id : Int} {l : List KR} {i : Nat} (h : dj id l 0 = some i) : ∃ k, l[i]? = some k ∧ k.st.id = id := by
  have key : ∀ (l : List KR) (a i : Nat), dj id l a = some i → a ≤ i ∧ ∃ k, l[i - a]? = some k ∧ k.st.id = id := by
    intro l
    induction l with
    | nil => intro a i h; cases h
    | cons k r ih =>
      intro a i h
      unfold dj at h
      split at h
      · obtain rfl := (by simpa using h : a = i)
        exact ⟨Nat.le_refl _, k, by simp, by assumption⟩
      · obtain ⟨h1, k', h2, h3⟩ := ih (a + 1) i h
        refine ⟨by omega, k', ?_, h3⟩
        rw [show i - a = i - (a + 1) + 1 by omega]
        simpa using h2
  obtain ⟨_, h2⟩ := key l 0 i h
  exact h2
theorem mE {w : WinV} (h : aS w = true) {u : Int} (_h0 : 0 ≤ u) (h1 : u ≤ w.held) : 0 ≤ db w u ∧ db w u ≤ w.held - u := by
  have := aR.1 h
  unfold db
  split
  · omega
  · unfold zf
    split
    · omega
    · dsimp only; omega
theorem B6 {w : WinV} (h : aS w = true) {u : Int} (h0 : 0 ≤ u) (h1 : u ≤ w.held) : aS (wo w (db w u)) = true := by
  obtain ⟨a, b⟩ := mE h h0 h1
  have := aR.1 h
  rw [aR]
  unfold wo
  dsimp only
  omega
theorem VN.gbC {c : NL} (h : VN c) : VN (gbC c) := by
  unfold Y.gbC
  split
  · exact h
  · rename_i hn
    have hcl : c.cl = false := eq_false_of_ne_true fun e => hn (.inl e)
    have h0 : 0 < db c.rw (aP c.ks) := by have := fun e => hn (.inr e); omega
    obtain ⟨a, b⟩ := mE h.rw (eC c.ks) h.tt
    have := aR.1 h.rw
    have hp := eC c.ks
    refine ⟨⟨h.sd, h.sz, h.sw, B6 h.rw (eC c.ks) h.tt, h.ss, h.rs, h.sh, h.la, h.aw, h.n1, h.n2, h.pg, h.pn, h.cn, h.pk, h.asc, fun f hf => ?_, fun e => ?_, ?_⟩, h.nf⟩
    · rcases List.mem_append.1 hf with hf | hf
      · exact h.ou f hf
      · obtain rfl := List.mem_singleton.1 hf
        exact IY (Int.le_refl _) (by omega) (by omega) (by omega)
    · dsimp only at e; rw [hcl] at e; cases e
    · show aP c.ks ≤ (wo c.rw (db c.rw (aP c.ks))).held
      unfold wo; dsimp only; omega
theorem PK.rcv {sd sz la : Int} {k : KR} (h : PK sd sz la k) {w : WinV} (hw : aS w = true) (hz : w.size = k.st.rcv.size) {ib : List ByteArray} (hib : ∀ m ∈ ib, m.size ≤ 16384) (hu : k.st.done = false → aN ib ≤ w.held) : PK sd sz la { k with st := { k.st with rcv := w }, ib := ib } := by
  have hv : VS { k.st with rcv := w } := ⟨h.vs.id, h.vs.sd, h.vs.sh, h.vs.sn, hw, h.vs.rq, h.vs.rs, h.vs.dn, h.vs.nd⟩
  refine ⟨hv, h.sd, h.z1, hz.trans h.z2, h.h0, h.he, hib, h.la, h.dn, hu, fun hd => ?_, h.kd⟩
  exact mB (s := k.st) (mD h.ahd) ⟨rfl, rfl, rfl, rfl, rfl, rfl, rfl, rfl, Int.le_refl _, fun h => h, hv⟩ h.h0 (PK.ahd (k := k) h)
theorem VN.gbK {c : NL} (h : VN c) {i : Nat} {k : KR} (hi : c.ks[i]? = some k) (hd : k.st.done = false) : VN (gbK c i k.st.id) ∧ (gbK c i k.st.id).ks.map (fun k => (k.ib, k.st.done)) = c.ks.map (fun k => (k.ib, k.st.done)) := by
  have hk := h.pk k (List.mem_of_getElem? hi)
  unfold Y.gbK
  rw [show ul c i = db k.st.rcv (aN k.ib) by unfold ul; rw [eX hi]]
  split
  · exact ⟨h, rfl⟩
  · rename_i hn
    have hcl : c.cl = false := eq_false_of_ne_true fun e => hn (.inl e)
    have h0 : 0 < db k.st.rcv (aN k.ib) := by have := fun e => hn (.inr e); omega
    obtain ⟨a, b⟩ := mE hk.vs.rv (eW k.ib) (hk.un hd)
    have := aR.1 hk.vs.rv
    have hp := eW k.ib
    rw [cg hi]
    refine ⟨h.upd (sw' := c.sw) (rw' := c.rw) hi (hk.rcv (B6 hk.vs.rv hp (hk.un hd)) rfl hk.ib (fun _ => ?_)) rfl (fun e => e) h.sw h.ss h.sh (Int.le_refl _) (h.nf k (List.mem_of_getElem? hi)) h.rw h.rs (fun f hf => ?_) (fun e => ?_) ?_, ?_⟩
    · unfold wo; dsimp only; omega
    · rcases List.mem_append.1 hf with hf | hf
      · exact h.ou f hf
      · obtain rfl := List.mem_singleton.1 hf
        have := hk.vs.id
        exact IY (by omega) (by omega) (by omega) (by omega)
    · rw [hcl] at e; cases e
    · rw [dh hi]
      have := h.tt
      show aP c.ks - aN k.ib + aN k.ib ≤ c.rw.held
      omega
    · show (c.ks.set i _).map _ = _
      rw [List.map_set]
      obtain ⟨h1, h2⟩ := List.getElem?_eq_some_iff.1 hi
      apply List.ext_getElem?
      intro j
      by_cases hj : i = j
      · subst hj
        rw [List.getElem?_set_self (by rw [List.length_map]; exact h1), List.getElem?_map, hi]; rfl
      · rw [List.getElem?_set_ne hj]
theorem VN.new {sd sz : Int} (h : (jN sd sz).2 = 0) : VN (jN sd sz).1 := by
  unfold jN at h ⊢
  split at h
  · cases h
  · rename_i g
    rw [if_neg g]
    have g1 : sd = 1 ∨ sd = 2 := by have := fun e => g (.inl e); omega
    have g2 : (jT sz).err = 0 := Decidable.not_not.1 fun e => g (.inr e)
    have g3 : 1 ≤ sz ∧ sz ≤ 1048576 ∧ jT sz = ⟨⟨sz, sz, 0⟩, 0⟩ := by
      unfold jT at g2 ⊢
      split at g2
      · cases g2
      · rename_i g'
        rw [if_neg g']
        exact ⟨by omega, by omega, rfl⟩
    obtain ⟨z1, z2, z3⟩ := g3
    rw [z3]
    have hw : aS ⟨sz, sz, 0⟩ = true := aR.2 ⟨z1, z2, by dsimp only; omega, Int.le_refl _, z2, by dsimp only; omega⟩
    exact ⟨⟨g1, ⟨z1, z2⟩, hw, hw, rfl, rfl, rfl, ⟨Int.le_refl _, (show (0 : Int) ≤ 2147483647 by decide)⟩, ⟨Int.le_refl _, (show (0 : Int) ≤ 2147483648 by decide)⟩, fun _ => rfl, fun _ => ⟨rfl, (show (0 : Int) ≤ 1 by decide)⟩, Nat.zero_le _, (fun _ h => by cases h), Nat.zero_le _, (fun _ h => by cases h), List.Pairwise.nil, (fun _ h => by cases h), fun _ => ⟨rfl, rfl⟩, Int.le_refl _⟩, fun _ h => by cases h⟩
theorem VN.flush {c : NL} (h : VN c) : VN (gX c).1 :=
  ⟨⟨h.sd, h.sz, h.sw, h.rw, h.ss, h.rs, h.sh, h.la, h.aw, h.n1, h.n2, h.pg, h.pn, h.cn, h.pk, h.asc, (fun _ h => by cases h), fun e => ⟨rfl, (h.cl e).2⟩, h.tt⟩, h.nf⟩
theorem VN.out {c : NL} (h : VN c) {f : FrV} (hf : ay f = 0) (hc : c.cl = false) : VN { c with ou := c.ou ++ [f] } :=
  ⟨⟨h.sd, h.sz, h.sw, h.rw, h.ss, h.rs, h.sh, h.la, h.aw, h.n1, h.n2, h.pg, h.pn, h.cn, h.pk, h.asc, fun x hx => (List.mem_append.1 hx).elim (h.ou x) (fun hx => by obtain rfl := List.mem_singleton.1 hx; exact hf), (fun e => by dsimp only at e; rw [hc] at e; cases e), h.tt⟩, h.nf⟩
theorem VN.ping {c : NL} (h : VN c) (n : Int) : VN (uq c n).1 := by
  unfold uq
  split
  · exact h
  · rename_i hc
    split
    · exact h
    · rename_i hf
      exact h.out (Decidable.not_not.1 hf) (eq_false_of_ne_true hc)
theorem VN.away {c : NL} (h : VN c) : VN (xN c) := by
  unfold xN
  split
  · rename_i hc
    have h1 := h.out (f := ⟨9, 0, c.la, emptyB⟩) (Ju h.la.1 h.la.2) hc.2.1
    have hla := h.la
    exact ⟨⟨h1.sd, h1.sz, h1.sw, h1.rw, h1.ss, h1.rs, h1.sh, h1.la, ⟨by show 0 ≤ c.la + 1; omega, by show c.la + 1 ≤ 2147483648; omega⟩, h1.n1, fun e => ⟨(h1.n2 e).1, Int.le_refl _⟩, h1.pg, h1.pn, h1.cn, h1.pk, h1.asc, h1.ou, h1.cl, h1.tt⟩, h1.nf⟩
  · exact h
theorem yg {sd sz la above : Int} {k : KR} (h : PK sd sz la k) : PK sd sz la (fS above k) ∧ (fS above k).st.id = k.st.id ∧ (k.st.done = true → fS above k = k) ∧ (fS above k).ib = k.ib ∧ (above < k.st.id → (fS above k).st.done = true) ∧ (k.st.id ≤ above → fS above k = k) ∧ (fS above k = k ∨ (fS above k).ob = []) := by
  unfold fS
  split
  · rename_i hc
    have he : uk k.st 12 emptyB = dN k.st 12 emptyB := by
      unfold uk
      rw [if_neg]
      rintro (e | e | e)
      · rw [hc.1] at e; cases e
      · rw [fU.2 h.vs] at e; cases e
      · exact e (oe (by decide) (by decide))
    rw [he]
    unfold eV
    rw [if_pos (show ({ k with st := dN k.st 12 emptyB } : KR).st.done = true from rfl)]
    exact ⟨⟨h.vs.done (oe (by decide) (by decide)), h.sd, h.z1, h.z2, h.h0, h.he, h.ib, h.la, fun _ => rfl, (fun e => by cases e), (fun e => by cases e), fun _ h => by cases h⟩, rfl, fun e => absurd e (by rw [hc.1]; simp), rfl, fun _ => rfl, fun e => absurd hc.2 (by omega), .inr rfl⟩
  · rename_i hc
    refine ⟨h, rfl, fun _ => rfl, rfl, fun e => ?_, fun _ => rfl, .inl rfl⟩
    cases hd : k.st.done with
    | true => rfl
    | false => exact absurd ⟨hd, e⟩ hc
theorem yh {c : NL} (h : VN c) (above : Int) : VN (ur c above) := by
  have hp := fun k hk => yg (above := above) (h.pk k hk)
  have hmap : (c.ks.map (fS above)).map (·.st.id) = c.ks.map (·.st.id) := by
    rw [List.map_map]
    exact List.map_congr_left fun k hk => (hp k hk).2.1
  have hcnt : dO (c.ks.map (fS above)) ≤ dO c.ks := by
    unfold dO
    rw [List.countP_map]
    refine List.countP_mono_left fun k hk hd => ?_
    cases hd' : k.st.done with
    | false => rfl
    | true =>
      have := (hp k hk).2.2.1 hd'
      simp only [Function.comp, this, hd'] at hd
      exact absurd hd (by decide)
  have htot : ∀ l : List KR, (∀ k ∈ l, (fS above k).ib = k.ib) → aP (l.map (fS above)) = aP l := by
    intro l
    induction l with
    | nil => intro _; rfl
    | cons k r ih =>
      intro hx
      rw [List.map_cons, aP, aP, ih (fun x hxm => hx x (List.mem_cons_of_mem _ hxm)), hx k (List.mem_cons_self ..)]
  refine ⟨⟨h.sd, h.sz, h.sw, h.rw, h.ss, h.rs, h.sh, h.la, h.aw, h.n1, h.n2, h.pg, h.pn, Nat.le_trans hcnt h.cn, fun k hk => ?_, by show ((c.ks.map (fS above)).map (·.st.id)).Pairwise (· < ·); rw [hmap]; exact h.asc, h.ou, fun e => ⟨(h.cl e).1, by have := (h.cl e).2; show dO (c.ks.map (fS above)) = 0; omega⟩, ?_⟩, fun k hk => ?_⟩
  · obtain ⟨k0, hk0, rfl⟩ := List.mem_map.1 hk
    exact (hp k0 hk0).1
  · show aP (c.ks.map (fS above)) ≤ c.rw.held
    rw [htot c.ks (fun k hk => (hp k hk).2.2.2.1)]
    exact h.tt
  · obtain ⟨k0, hk0, rfl⟩ := List.mem_map.1 hk
    rcases (hp k0 hk0).2.2.2.2.2.2 with e | e
    · rw [e]; exact h.nf k0 hk0
    · intro f r e'; rw [e] at e'; cases e'
theorem wT {c : NL} (h : VN c) : ∀ k ∈ (lu c).ks, k.st.done = true := fun k hk => by
  obtain ⟨k0, hk0, rfl⟩ := List.mem_map.1 hk
  have hp := h.pk k0 hk0
  have := hp.vs.id
  exact (yg (above := 0) hp).2.2.2.2.1 (by omega)
theorem B7 {l : List KR} (h : ∀ k ∈ l, k.st.done = true) : dO l = 0 := by
  unfold dO
  refine List.countP_eq_zero.2 fun k hk => ?_
  rw [h k hk]; decide
theorem VN.close {c : NL} (h : VN c) : VN (lu c) := by
  have h1 : VN { c with ou := [] } := h.flush
  have h2 := yh h1 0
  exact ⟨⟨h2.sd, h2.sz, h2.sw, h2.rw, h2.ss, h2.rs, h2.sh, h2.la, h2.aw, h2.n1, h2.n2, h2.pg, h2.pn, h2.cn, h2.pk, h2.asc, (fun _ h => by cases h), fun _ => ⟨rfl, B7 (wT h)⟩, h2.tt⟩, h2.nf⟩
theorem VN.wait {c : NL} (h : VN c) (f : FrV) (chk : Int) (hk : f.kind = 2 ∨ f.kind = 3 ∨ f.kind = 4) : VN (eP c f chk).1 := by
  unfold eP
  split
  · exact h
  · rename_i hw
    have hw : mw c f chk = 0 := Decidable.not_not.1 hw
    unfold mw at hw
    cases hfi : dj f.strm c.ks 0 with
    | none => rw [hfi] at hw; cases hw
    | some i =>
      obtain ⟨k, hi, hid⟩ := gz hfi
      rw [hfi] at hw
      dsimp only at hw
      rw [eX hi] at hw
      have hp := h.pk k (List.mem_of_getElem? hi)
      have e1 : chk = 0 := by
        refine Decidable.not_not.1 fun e => ?_
        rw [if_pos e] at hw; exact e hw
      rw [if_neg (by simpa using e1), if_neg (by simpa using hp.ahd)] at hw
      have hah := uV hp.ahd hw
      show VN (gu (eZ c i _) i)
      rw [cg hi]
      have hb : VB { c with ks := c.ks.set i { k with ob := k.ob ++ [f] } } := by
        refine h.toVB.upd (k' := { k with ob := k.ob ++ [f] }) (sw' := c.sw) (rw' := c.rw) (ou' := c.ou) hi ?_ rfl (fun e => e) h.sw h.ss h.sh h.rw h.rs h.ou (fun e => (h.cl e).1) ?_
        · refine ⟨hp.vs, hp.sd, hp.z1, hp.z2, hp.h0, hp.he, hp.ib, hp.la, fun e => ?_, hp.un, fun _ => hah, fun x hx => ?_⟩
          · have hob := hp.dn e
            rw [hob, dF] at hw
            exact absurd hw (rA (s := ei k.st) e)
          · rcases List.mem_append.1 hx with hx | hx
            · exact hp.kd x hx
            · obtain rfl := List.mem_singleton.1 hx
              exact hk
        · rw [dh hi]
          have := h.tt
          show aP c.ks - aN k.ib + aN k.ib ≤ c.rw.held
          omega
      have hil := (List.getElem?_eq_some_iff.1 hi).1
      refine VN.son hb (k := { k with ob := k.ob ++ [f] }) (List.getElem?_set_self hil) (fun j k' hj hk' => ?_)
      rw [List.getElem?_set_ne (fun e => hj e.symm)] at hk'
      exact h.nf k' (List.mem_of_getElem? hk')
theorem VN.cancel {c : NL} (h : VN c) (id code : Int) : VN (uo c id code).1 := by
  unfold uo
  split
  · exact h
  · rename_i hw
    have hw : xM c id code = 0 := Decidable.not_not.1 hw
    unfold xM at hw
    cases hfi : dj id c.ks 0 with
    | none => rw [hfi] at hw; cases hw
    | some i =>
      obtain ⟨k, hi, hid⟩ := gz hfi
      rw [hfi] at hw
      dsimp only at hw
      rw [eX hi] at hw
      have hp := h.pk k (List.mem_of_getElem? hi)
      have ho := fH hw
      have hcl : c.cl = false := eq_false_of_ne_true fun e => by
        have := ye h.toVB e k (List.mem_of_getElem? hi)
        rw [ho.d] at this; cases this
      show VN { eZ c i _ with ou := _ }
      rw [cg hi]
      have hd : (bh k.st ⟨5, id, code, emptyB⟩).st = dN k.st code ⟨#[]⟩ := by
        generalize (bh k.st ⟨5, id, code, emptyB⟩).st = t at *
        cases ho.h with
        | data hk => simp at hk
        | fin hk => simp at hk
        | stat hk => simp at hk
        | reset hk => rfl
      have hs : eV { k with st := (bh k.st ⟨5, id, code, emptyB⟩).st } = { k with st := dN k.st code ⟨#[]⟩, ob := [] } := by
        rw [hd]; unfold eV; exact if_pos rfl
      rw [hs]
      rw [hd] at ho
      refine h.upd (k' := { k with st := dN k.st code ⟨#[]⟩, ob := [] }) (sw' := c.sw) (rw' := c.rw) hi ⟨jk ho, hp.sd, hp.z1, hp.z2, hp.h0, hp.he, hp.ib, hp.la, fun _ => rfl, (fun e => by cases e), (fun e => by cases e), fun _ h => by cases h⟩ rfl (fun _ => rfl) h.sw h.ss h.sh (Int.le_refl _) (fun f r e => by cases e) h.rw h.rs (fun x hx => ?_) (fun e => ?_) ?_
      · rcases List.mem_append.1 hx with hx | hx
        · exact h.ou x hx
        · obtain rfl := List.mem_singleton.1 hx
          exact ho.fe
      · rw [hcl] at e; cases e
      · rw [dh hi]
        have := h.tt
        show aP c.ks - aN k.ib + aN k.ib ≤ c.rw.held
        omega
theorem VN.read {c : NL} (h : VN c) (id : Int) : VN (aG c id).1 := by
  unfold aG
  cases hfi : dj id c.ks 0 with
  | none => exact h
  | some i =>
    obtain ⟨k, hi, hid⟩ := gz hfi
    dsimp only
    rw [eX hi]
    cases hib : k.ib with
    | nil => exact h
    | cons s r =>
      dsimp only
      have hp := h.pk k (List.mem_of_getElem? hi)
      have hu := eW r
      have hs := dz s
      have hup : VN { c with ks := c.ks.set i { k with ib := r } } := by
        refine h.upd (k' := { k with ib := r }) (sw' := c.sw) (rw' := c.rw) (ou' := c.ou) hi (hp.rcv (w := k.st.rcv) (ib := r) hp.vs.rv rfl (fun m hm => hp.ib m (by rw [hib]; exact List.mem_cons_of_mem _ hm)) (fun hd => ?_)) rfl (fun e => e) h.sw h.ss h.sh (Int.le_refl _) (h.nf k (List.mem_of_getElem? hi)) h.rw h.rs h.ou (fun e => (h.cl e).1) ?_
        · have := hp.un hd
          rw [hib, aN] at this
          omega
        · rw [dh hi, hib, aN]
          have := h.tt
          show aP c.ks - (au s + aN r) + aN r ≤ c.rw.held
          omega
      rw [cg hi]
      refine VN.gbC ?_
      split
      · exact hup
      · rename_i hd
        have hil := (List.getElem?_eq_some_iff.1 hi).1
        rw [← hid]
        exact (hup.gbK (i := i) (k := { k with ib := r }) (List.getElem?_set_self hil) (eq_false_of_ne_true hd)).1
theorem VN.drop {c : NL} (h : VN c) (id : Int) : VN (xO c id) := by
  unfold xO
  cases hfi : dj id c.ks 0 with
  | none => exact h
  | some i =>
    obtain ⟨k, hi, hid⟩ := gz hfi
    dsimp only
    split
    · exact h
    · refine VN.gbC ?_
      have hsub : (c.ks.eraseIdx i).Sublist c.ks := List.eraseIdx_sublist ..
      refine ⟨⟨h.sd, h.sz, h.sw, h.rw, h.ss, h.rs, h.sh, h.la, h.aw, h.n1, h.n2, h.pg, h.pn, Nat.le_trans (hsub.countP_le) h.cn, fun k hk => h.pk k (hsub.subset hk), h.asc.sublist (hsub.map _), h.ou, fun e => ⟨(h.cl e).1, ?_⟩, ?_⟩, fun k hk => h.nf k (hsub.subset hk)⟩
      · have := (h.cl e).2
        have h2 : dO (c.ks.eraseIdx i) ≤ dO c.ks := hsub.countP_le
        show dO (c.ks.eraseIdx i) = 0
        omega
      · show aP (c.ks.eraseIdx i) ≤ c.rw.held
        rw [pG hi]
        have := h.tt
        have := eW k.ib
        omega
theorem B8 {id sd sh n : Int} (h : (dq id sd sh n).err = 0) : (dq id sd sh n).st = ⟨id, sd, sh, 0, 0, false, false, false, 0, ⟨#[]⟩, ⟨n, n, 0⟩, ⟨n, n, 0⟩⟩ ∧ VS (dq id sd sh n).st ∧ 1 ≤ id ∧ id ≤ 2147483647 := by
  unfold dq at h ⊢
  split at h
  · cases h
  · rename_i g
    rw [if_neg g]
    have g1 : ¬ id < 1 := fun e => g (.inl e)
    have g2 : ¬ 2147483647 < id := fun e => g (.inr (.inl e))
    have g3 : sd = 1 ∨ sd = 2 := by have := fun e => g (.inr (.inr (.inl e))); omega
    have g4 : sU sh = true := by simpa using fun e => g (.inr (.inr (.inr (.inl e))))
    have g5 : (jT n).err = 0 := Decidable.not_not.1 fun e => g (.inr (.inr (.inr (.inr e))))
    have g6 : 1 ≤ n ∧ n ≤ 1048576 ∧ jT n = ⟨⟨n, n, 0⟩, 0⟩ := by
      unfold jT at g5 ⊢
      split at g5
      · cases g5
      · rename_i g'
        rw [if_neg g']
        exact ⟨by omega, by omega, rfl⟩
    obtain ⟨z1, z2, z3⟩ := g6
    rw [z3]
    have hw : aS ⟨n, n, 0⟩ = true := aR.2 ⟨z1, z2, by dsimp only; omega, Int.le_refl _, z2, by dsimp only; omega⟩
    have ht : ∀ m : Int, m = -1 ∨ 0 ≤ m → 0 ≤ li m := fun m hm => by unfold li; split <;> omega
    have hc2 : 0 ≤ li (c2 sh) := ht _ (by unfold c2; rw [if_pos g4]; split <;> simp)
    have hc4 : 0 ≤ li (c4 sh) := ht _ (by unfold c4; rw [if_pos g4]; split <;> simp)
    refine ⟨rfl, ⟨⟨by dsimp only; omega, by dsimp only; omega⟩, g3, g4, hw, hw, ?_, ?_, (fun e => by cases e), fun _ => ⟨?_, fun e => ?_, rfl, rfl⟩⟩, by omega, by omega⟩
    · unfold jA; split <;> exact ⟨Int.le_refl _, hc2⟩
    · unfold ng; split <;> exact ⟨Int.le_refl _, hc4⟩
    · unfold uj; split <;> rfl
    · unfold rZ at e; split at e <;> cases e
theorem VN.more {c : NL} (h : VN c) {id sh nx' la' : Int} (ho : (dq id c.sd sh c.sz).err = 0) (hi : c.la < id) (hla : la' = id) (hn1 : c.sd = 1 → nx' = la' + 1) (hn2 : c.sd = 2 → nx' = 1) (hc : dO c.ks < 64) (hcl : c.cl = false) {hd : jU} (he : bQ hd = 0) {ou' : List FrV} (hou : ∀ f ∈ ou', ay f = 0) :
    VN { c with nx := nx', la := la', ks := c.ks ++ [⟨(dq id c.sd sh c.sz).st, hd.svc, hd.mth, hd.late, hd.metas, [], []⟩], ou := ou' } := by
  obtain ⟨e, v, i1, i2⟩ := B8 ho
  subst hla
  have hla := h.la
  refine ⟨⟨h.sd, h.sz, h.sw, h.rw, h.ss, h.rs, h.sh, ⟨by show 0 ≤ la'; omega, i2⟩, h.aw, hn1, fun e => ⟨hn2 e, by have := (h.n2 e).2; show c.aw ≤ la' + 1; omega⟩, h.pg, h.pn, ?_, fun k hk => ?_, ?_, hou, (fun e => by dsimp only at e; rw [hcl] at e; cases e), ?_⟩, fun k hk => ?_⟩
  · show dO (c.ks ++ _) ≤ 64
    unfold dO at hc ⊢
    rw [List.countP_append, List.countP_singleton]
    split <;> omega
  · rcases List.mem_append.1 hk with hk | hk
    · exact (h.pk k hk).la' (by show c.la ≤ la'; omega)
    · obtain rfl := List.mem_singleton.1 hk
      exact ⟨v, by rw [e], by rw [e], by rw [e], by rw [e], he, (fun _ h => by cases h), by rw [e]; exact Int.le_refl _, fun _ => rfl, fun _ => by rw [e]; exact Int.le_refl _, fun _ => rfl, fun _ h => by cases h⟩
  · show ((c.ks ++ _).map (·.st.id)).Pairwise (· < ·)
    rw [List.map_append]
    refine List.pairwise_append.2 ⟨h.asc, List.pairwise_singleton _ _, fun a ha b hb => ?_⟩
    obtain ⟨k, hk, rfl⟩ := List.mem_map.1 ha
    obtain rfl := List.mem_singleton.1 hb
    have := (h.pk k hk).la
    show k.st.id < (dq la' c.sd sh c.sz).st.id
    rw [e]
    show k.st.id < la'
    omega
  · show aP (c.ks ++ _) ≤ c.rw.held
    rw [va]
    have := h.tt
    simp only [aP, aN]
    omega
  · rcases List.mem_append.1 hk with hk | hk
    · exact h.nf k hk
    · obtain rfl := List.mem_singleton.1 hk
      intro f r e'; cases e'
theorem VN.open {c : NL} (h : VN c) (hd : jU) (sh : Int) : VN (cu c hd sh).1 := by
  unfold cu
  split
  · exact h
  · rename_i hw
    have hw : oZ c hd sh = 0 := Decidable.not_not.1 hw
    unfold oZ at hw
    split at hw
    · cases hw
    rename_i g1
    split at hw
    · cases hw
    rename_i g2
    split at hw
    · rename_i g; exact absurd hw g
    rename_i g3
    split at hw
    · rename_i g; exact absurd hw g
    rename_i g4
    have h1 : c.sd = 1 := Decidable.not_not.1 fun e => g1 (.inl e)
    have h2 : c.cl = false := eq_false_of_ne_true fun e => g1 (.inr (.inl e))
    have hnx := h.n1 h1
    have e1 : dq c.nx 1 sh c.sz = dq c.nx c.sd sh c.sz := by rw [h1]
    dsimp only
    rw [e1] at hw ⊢
    refine h.more (id := c.nx) hw (by omega) rfl (fun _ => rfl) (fun e => by omega) (by omega) h2 (Decidable.not_not.1 g3) (fun f hf => ?_)
    rcases List.mem_append.1 hf with hf | hf
    · exact h.ou f hf
    · obtain rfl := List.mem_singleton.1 hf
      exact Decidable.not_not.1 g4
end Go.Proofs.YtklcfjlmlbnkaaaGreatDoor.Y
