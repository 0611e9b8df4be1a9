/- Streams, plain: the frames that were sent and received are legal events; two ends stay mirror images. No program in sight. -/
import Derived.Test.YtcedpdofjbaciaaDoorStrLaw
import Derived.Test.YtcedpdofjbaciaaDoorPlain
namespace Go.Proofs.YtcedpdofjbaciaaDoor
open Go.RowKit
/-- the letter of a frame. -/
def evT (side : Int) (f : FrV) (own : Bool) : List UInt8 :=
  if f.kind = 2 then (if own = decide (side = 1) then [113] else [114]) else if f.kind = 3 then [101]
  else if f.kind = 4 then (if (unpackS f.data).code = 0 then [115] else [120]) else if f.kind = 5 then [120] else []
structure OnceI (sh : Int) (s : StV) (E : List UInt8) : Prop where
  shape : s.shape = sh
  good : isS sh = true
  legal : legalS sh E = true
  ed : (stAt sh E).ed = s.done
  cnt : s.done = false → stAt sh E = ⟨reqN s, resN s, reqE s, false⟩
theorem OnceI.complete {sh : Int} {s : StV} {E : List UInt8} (h : OnceI sh s E) : completeS sh E = s.done := by
  unfold completeS; rw [h.legal, Bool.true_and, ← legal_ed sh E h.legal, h.ed]
theorem validT_side {s : StV} (h : validT s = true) : s.side = 1 ∨ s.side = 2 := by
  unfold validT headOk at h
  simp only [Bool.and_eq_true, decide_eq_true_eq] at h
  exact h.1.1.1.2.2
theorem top_room {n m : Int} (h : ¬ topS m ≤ n) : roomS n m = true := by
  unfold topS at h; unfold roomS
  by_cases hm : m < 0
  · simp [hm]
  · rw [if_neg hm] at h; simp; omega
theorem OnceI.snoc {sh : Int} {s t : StV} {E : List UInt8} (h : OnceI sh s E) (hd : s.done = false) (c : UInt8) (hok : nok sh (reqN s) (resN s) (reqE s) false c.toNat = true) (hsh : t.shape = s.shape)
    (hed : ned sh false c.toNat = t.done) (hc : t.done = false → nq sh (reqN s) false c.toNat = reqN t ∧ nr sh (resN s) false c.toNat = resN t ∧ nen sh (reqE s) false c.toNat = reqE t) : OnceI sh t (E ++ [c]) := by
  have hs := h.cnt hd
  refine ⟨hsh.trans h.shape, h.good, ?_, ?_, fun ht => ?_⟩
  · rw [legal_snoc, h.legal, hs]; exact hok
  · rw [stAt_snoc, hs]; exact hed
  · rw [stAt_snoc, hs]
    obtain ⟨h1, h2, h3⟩ := hc ht
    unfold St.next
    simp only
    rw [h1, h2, h3, hed, ht]
theorem OnceI.same {sh : Int} {s t : StV} {E : List UInt8} (h : OnceI sh s E) (h1 : t.shape = s.shape) (h2 : t.done = s.done) (h3 : reqN t = reqN s) (h4 : resN t = resN s) (h5 : reqE t = reqE s) : OnceI sh t E :=
  ⟨h1.trans h.shape, h.good, h.legal, h.ed.trans h2.symm, fun hd => by rw [h3, h4, h5]; exact h.cnt (h2 ▸ hd)⟩
theorem nok_q {sh q r : Int} {en : Bool} (hs : isS sh = true) (he : en = false) (hr : roomS q (c2 sh) = true) : nok sh q r en false 113 = true := by unfold nok; simp [hs, he, hr]
theorem nok_e {sh q r : Int} {en : Bool} (hs : isS sh = true) (he : en = false) (hr : c1 sh ≤ q) : nok sh q r en false 101 = true := by unfold nok; simp [hs, he, hr]
theorem nok_r {sh q r : Int} {en : Bool} (hs : isS sh = true) (hr : roomS r (c4 sh) = true) : nok sh q r en false 114 = true := by unfold nok; simp [hs, hr]
theorem nok_x {sh q r : Int} {en : Bool} (hs : isS sh = true) : nok sh q r en false 120 = true := by unfold nok; simp [hs]
theorem early_s {s : StV} (h : earlyT s = false) (hs : isS s.shape = true) : nok s.shape (reqN s) (resN s) (reqE s) false 115 = true := by
  unfold earlyT at h
  simp only [Bool.or_eq_false_iff, decide_eq_false_iff_not, Bool.and_eq_false_iff, Bool.or_eq_false_iff, beq_eq_false_iff_ne, Bool.not_eq_false'] at h
  obtain ⟨⟨h1, h2⟩, h3⟩ := h
  unfold nok
  simp only [hs, Bool.not_true, Bool.or_false, Bool.false_eq_true, if_false]
  simp
  refine ⟨⟨by omega, by omega⟩, ?_⟩
  rcases h3 with h3 | h3
  · right; unfold must; simp; exact h3
  · left; exact h3
theorem close_once {sh : Int} {s : StV} {f : FrV} {E : List UInt8} {own : Bool} (h : OnceI sh s E) (hd : s.done = false) (hk : f.kind = 4 ∨ f.kind = 5) (he : f.kind = 4 → (unpackS f.data).code = 0 → earlyT s = false) :
    OnceI sh (closeT s f) (E ++ evT s.side f own) := by
  have hg := h.good
  have hdone : (closeT s f).done = true ∧ (closeT s f).shape = s.shape := by unfold closeT; split <;> exact ⟨rfl, rfl⟩
  rcases hk with hk | hk
  · unfold evT
    rw [if_neg (by omega), if_neg (by omega), if_pos hk]
    by_cases hc : (unpackS f.data).code = 0
    · rw [if_pos hc]
      refine h.snoc hd 115 ?_ hdone.2 ?_ (fun ht => by rw [hdone.1] at ht; cases ht)
      · have := early_s (he hk hc) (by rw [h.shape]; exact hg)
        rw [h.shape] at this; exact this
      · rw [hdone.1]; simp [ned, hg]
    · rw [if_neg hc]
      refine h.snoc hd 120 (nok_x hg) hdone.2 ?_ (fun ht => by rw [hdone.1] at ht; cases ht)
      rw [hdone.1]; simp [ned, hg]
  · unfold evT
    rw [if_neg (by omega), if_neg (by omega), if_neg (by omega), if_pos hk]
    refine h.snoc hd 120 (nok_x hg) hdone.2 ?_ (fun ht => by rw [hdone.1] at ht; cases ht)
    rw [hdone.1]; simp [ned, hg]
theorem data_once {sh : Int} {s t : StV} {f : FrV} {E : List UInt8} {own : Bool} (h : OnceI sh s E) (hd : s.done = false) (hk : f.kind = 2) (hsh : t.shape = s.shape) (htd : t.done = s.done)
    (hq : own = decide (s.side = 1) → reqE s = false ∧ roomS (reqN s) (c2 sh) = true ∧ reqN t = reqN s + 1 ∧ resN t = resN s ∧ reqE t = reqE s)
    (hr : own ≠ decide (s.side = 1) → roomS (resN s) (c4 sh) = true ∧ reqN t = reqN s ∧ resN t = resN s + 1 ∧ reqE t = reqE s) : OnceI sh t (E ++ evT s.side f own) := by
  have hg := h.good
  unfold evT
  rw [if_pos hk]
  by_cases ho : own = decide (s.side = 1)
  · rw [if_pos ho]
    obtain ⟨h1, h2, h3, h4, h5⟩ := hq ho
    refine h.snoc hd 113 (nok_q hg h1 h2) hsh ?_ (fun _ => ⟨?_, ?_, ?_⟩)
    · rw [htd, hd]; simp [ned, hg]
    · rw [h3]; simp [nq, hg]
    · rw [h4]; simp [nr, hg]
    · rw [h5]; simp [nen, hg]
  · rw [if_neg ho]
    obtain ⟨h2, h3, h4, h5⟩ := hr ho
    refine h.snoc hd 114 (nok_r hg h2) hsh ?_ (fun _ => ⟨?_, ?_, ?_⟩)
    · rw [htd, hd]; simp [ned, hg]
    · rw [h3]; simp [nq, hg]
    · rw [h4]; simp [nr, hg]
    · rw [h5]; simp [nen, hg]
theorem end_once {sh : Int} {s t : StV} {f : FrV} {E : List UInt8} {own : Bool} (h : OnceI sh s E) (hd : s.done = false) (hk : f.kind = 3) (hsh : t.shape = s.shape) (htd : t.done = s.done)
    (he : reqE s = false) (hc : c1 sh ≤ reqN s) (h3 : reqN t = reqN s) (h4 : resN t = resN s) (h5 : reqE t = true) : OnceI sh t (E ++ evT s.side f own) := by
  have hg := h.good
  unfold evT
  rw [if_neg (by omega), if_pos hk]
  refine h.snoc hd 101 (nok_e hg he hc) hsh ?_ (fun _ => ⟨?_, ?_, ?_⟩)
  · rw [htd, hd]; simp [ned, hg]
  · rw [h3]; simp [nq, hg]
  · rw [h4]; simp [nr, hg]
  · rw [h5]; simp [nen, hg]
theorem ev_none {side : Int} {f : FrV} {own : Bool} (h : f.kind < 2 ∨ 5 < f.kind) : evT side f own = [] := by
  unfold evT; rw [if_neg (by omega), if_neg (by omega), if_neg (by omega), if_neg (by omega)]
/-- an error, or a stream that is done, changes nothing. -/
theorem send_same {s : StV} {f : FrV} (h : s.done = true ∨ (sendT s f).err ≠ 0) : (sendT s f).st = s := by
  unfold sendT at h ⊢
  (repeat' split) <;> first | rfl | (exfalso; simp_all)
theorem recv_same {s : StV} {f : FrV} (h : s.done = true ∨ (recvT s f).err ≠ 0) : (recvT s f).st = s := by
  unfold recvT at h ⊢
  (repeat' split) <;> first | rfl | (exfalso; simp_all)
theorem send_once {sh : Int} {s : StV} {f : FrV} {E : List UInt8} (h : OnceI sh s E) (hd : s.done = false) (he : (sendT s f).err = 0) : OnceI sh (sendT s f).st (E ++ evT s.side f true) := by
  unfold sendT at he ⊢
  split at he
  · cases he
  rename_i g0
  rw [if_neg g0]
  have hv : validT s = true := by simpa using fun e => g0 (.inl e)
  have hsd := validT_side hv
  split at he
  · rename_i hk
    rw [if_pos hk]
    split at he
    · cases he
    rename_i g1
    rw [if_neg g1]
    split at he
    · cases he
    rename_i g2
    rw [if_neg g2]
    split at he
    · cases he
    rename_i g3
    rw [if_neg g3]
    split at he
    · rename_i g4; exact absurd he g4
    rename_i g4
    rw [if_neg g4]
    have hse : s.se = false := by simpa using fun e => g1 (.inr e)
    refine data_once h hd hk rfl rfl (fun ho => ?_) (fun ho => ?_)
    · have h1 : s.side = 1 := by simpa using ho.symm
      have hm : mostT s (s.side == 1) = topS (c2 s.shape) := by unfold mostT; rw [h1]; rfl
      rw [hm] at g2
      refine ⟨by unfold reqE; rw [if_pos h1]; exact hse, by unfold reqN; rw [if_pos h1, ← h.shape]; exact top_room g2, ?_, ?_, ?_⟩ <;> simp [reqN, resN, reqE, h1]
    · have h1 : s.side = 2 := by rcases hsd with e | e; exact absurd (by simp [e]) ho; exact e
      have hm : mostT s (s.side == 1) = topS (c4 s.shape) := by unfold mostT; rw [h1]; rfl
      rw [hm] at g2
      refine ⟨by unfold resN; rw [if_neg (by omega), ← h.shape]; exact top_room g2, ?_, ?_, ?_⟩ <;> simp [reqN, resN, reqE, h1]
  · rename_i hk2
    rw [if_neg hk2]
    split at he
    · rename_i hk
      rw [if_pos hk]
      split at he
      · cases he
      rename_i g1
      rw [if_neg g1]
      split at he
      · cases he
      rename_i g2
      rw [if_neg g2]
      have h1 : s.side = 1 := Decidable.not_not.1 fun e => g1 (.inr (.inr e))
      have hse : s.se = false := by simpa using fun e => g1 (.inr (.inl e))
      refine end_once h hd hk rfl rfl (by unfold reqE; rw [if_pos h1]; exact hse) (by unfold reqN; rw [if_pos h1, ← h.shape]; omega) ?_ ?_ ?_ <;> simp [reqN, resN, reqE, h1]
    · rename_i hk3
      rw [if_neg hk3]
      split at he
      · rename_i hk
        rw [if_pos hk]
        split at he
        · cases he
        rename_i g1
        rw [if_neg g1]
        split at he
        · cases he
        rename_i g2
        rw [if_neg g2]
        exact close_once h hd (.inl hk) (fun _ hc => by simpa using fun e => g2 ⟨hc, e⟩)
      · rename_i hk4
        rw [if_neg hk4]
        split at he
        · rename_i hk
          rw [if_pos hk]
          split at he
          · cases he
          rename_i g1
          rw [if_neg g1]
          exact close_once h hd (.inr hk) (fun e => by omega)
        · cases he
theorem recv_once {sh : Int} {s : StV} {f : FrV} {E : List UInt8} (h : OnceI sh s E) (hd : s.done = false) (he : (recvT s f).err = 0) : OnceI sh (recvT s f).st (E ++ evT s.side f false) := by
  unfold recvT at he ⊢
  split at he
  · cases he
  rename_i g0
  rw [if_neg g0]
  have hv : validT s = true := by simpa using fun e => g0 (.inl e)
  have hsd := validT_side hv
  rw [if_neg (by rw [hd]; simp)] at he ⊢
  split at he
  · rename_i hk
    rw [if_pos hk]
    split at he
    · cases he
    rename_i g1
    rw [if_neg g1]
    split at he
    · cases he
    rename_i g2
    rw [if_neg g2]
    split at he
    · cases he
    rename_i g3
    rw [if_neg g3]
    split at he
    · rename_i g4; exact absurd he g4
    rename_i g4
    rw [if_neg g4]
    have hge : s.ge = false := by simpa using g1
    refine data_once h hd hk rfl rfl (fun ho => ?_) (fun ho => ?_)
    · have h1 : s.side = 2 := by rcases hsd with e | e; exact absurd ho (by simp [e]); exact e
      have hm : mostT s (s.side != 1) = topS (c2 s.shape) := by unfold mostT; rw [h1]; rfl
      rw [hm] at g2
      refine ⟨by unfold reqE; rw [if_neg (by omega)]; exact hge, by unfold reqN; rw [if_neg (by omega), ← h.shape]; exact top_room g2, ?_, ?_, ?_⟩ <;> simp [reqN, resN, reqE, h1]
    · have h1 : s.side = 1 := by rcases hsd with e | e; exact e; exact absurd (by simp [e]) ho
      have hm : mostT s (s.side != 1) = topS (c4 s.shape) := by unfold mostT; rw [h1]; rfl
      rw [hm] at g2
      refine ⟨by unfold resN; rw [if_pos h1, ← h.shape]; exact top_room g2, ?_, ?_, ?_⟩ <;> simp [reqN, resN, reqE, h1]
  · rename_i hk2
    rw [if_neg hk2]
    split at he
    · rename_i hk
      rw [if_pos hk]
      split at he
      · cases he
      rename_i g1
      rw [if_neg g1]
      split at he
      · cases he
      rename_i g2
      rw [if_neg g2]
      have h1 : s.side = 2 := by rcases hsd with e | e; exact absurd (.inr e) g1; exact e
      have hge : s.ge = false := by simpa using fun e => g1 (.inl e)
      refine end_once h hd hk rfl rfl (by unfold reqE; rw [if_neg (by omega)]; exact hge) (by unfold reqN; rw [if_neg (by omega), ← h.shape]; omega) ?_ ?_ ?_ <;> simp [reqN, resN, reqE, h1]
    · rename_i hk3
      rw [if_neg hk3]
      split at he
      · rename_i hk
        rw [if_pos hk]
        split at he
        · cases he
        rename_i g1
        rw [if_neg g1]
        split at he
        · cases he
        rename_i g2
        rw [if_neg g2]
        exact close_once h hd (.inl hk) (fun _ hc => by simpa using fun e => g2 ⟨hc, e⟩)
      · rename_i hk4
        rw [if_neg hk4]
        split at he
        · rename_i hk
          rw [if_pos hk]
          exact close_once h hd (.inr hk) (fun e => by omega)
        · rename_i hk5
          rw [if_neg hk5]
          have hk6 : f.kind = 6 := by omega
          rw [ev_none (.inr (by omega)), List.append_nil]
          split at he
          · rename_i g1; exact absurd he g1
          rename_i g1
          rw [if_neg g1]
          exact h.same rfl rfl rfl rfl rfl
theorem open_once {id side shape size : Int} (h : (openT id side shape size).err = 0) : OnceI shape (openT id side shape size).st [] := by
  unfold openT at h ⊢
  split at h
  · cases h
  rename_i g
  rw [if_neg g]
  have hs : isS shape = true := by simpa using fun e => g (.inr (.inr (.inr (.inl e))))
  refine ⟨rfl, hs, rfl, rfl, fun _ => ?_⟩
  have hz : stAt shape [] = St.zero := rfl
  rw [hz]
  unfold St.zero reqN resN reqE
  simp only [St.mk.injEq]
  refine ⟨?_, ?_, ?_, trivial⟩ <;> split <;> rfl
end Go.Proofs.YtcedpdofjbaciaaDoor
