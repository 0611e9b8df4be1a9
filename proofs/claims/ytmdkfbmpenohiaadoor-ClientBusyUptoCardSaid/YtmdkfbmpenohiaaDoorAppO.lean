/- append to a slice of the call's own the elements of another one (nil too); a slice literal as such a slice. -/
import Derived.Test.YtmdkfbmpenohiaaDoorSyw
import Derived.Laws.OwnMore
namespace Go.Proofs.YtmdkfbmpenohiaaDoor.Y
open Go.RowKit
section
variable {P : Program} {T : Tab} {Q : Exit → Act → World → Prop} {n : Nat} {w0 : World} {S : Sts} {M : List Ent} {o : Oper} {l0 rest l : List Oper} {d : Nat}
theorem mem_clown {B0 w : World} {g : Nat} {e : TypeId} {cs : List Value} (len size : Nat) (h : Mem B0 w (.cl g e cs :: M)) (h1 : cs.length = len * size) (h2 : len ≤ maxLen) : Mem B0 w (.own (some ⟨g, 0, none⟩) len e size len cs :: M) := by
  obtain ⟨hb, ho, ha, hr⟩ := h
  refine ⟨hb, ⟨h1, .inr ⟨g, len, ⟨cs⟩, rfl, ho.1, ho.2, Nat.le_refl _, h2, by simpa using h1, ?_⟩⟩, ha, hr⟩
  show cs.take _ = cs
  exact List.take_of_length_le (by omega)
theorem sl_clown {g : Nat} {e : TypeId} {cs : List Value} (len size : Nat) (h1 : cs.length = len * size) (h2 : len ≤ maxLen) (h : SL P l0 Q l n w0 S (.own (some ⟨g, 0, none⟩) len e size len cs :: M)) : SL P l0 Q l n w0 S (.cl g e cs :: M) := ⟨fun a w h3 h4 => h.run a w h3 (mem_clown len size h4 h1 h2)⟩
end
end Go.Proofs.YtmdkfbmpenohiaaDoor.Y
