/- Texts of this claim merged into one: KCn10, KCn11, KCn12, KCn13, KCn14, KCn15, KCn16, KConV, KEx47, KAw47. -/
import Derived.Test.YtklcfjlmlbnkaaaGreatDoorKBunT
import Derived.Test.YtklcfjlmlbnkaaaGreatDoorKBunC9
import Derived.Test.YtklcfjlmlbnkaaaGreatDoorKBunI
namespace Go.Proofs.YtklcfjlmlbnkaaaGreatDoor.Y
open Go.RowKit
attribute [local irreducible] Calls
end Go.Proofs.YtklcfjlmlbnkaaaGreatDoor.Y
namespace Go.Proofs.YtklcfjlmlbnkaaaGreatDoor.Y
open Go.RowKit
structure Jd (v : NV) : Prop where
  ub : ∀ u ∈ v.kv, aN u.k.ib ≤ 4611686018427387904
  tb : aP v.c.ks ≤ 4611686018427387904
  hd : ∀ u ∈ v.kv, lg u.k.hd
  of : ∀ f ∈ v.c.ou, f.data.size < 4294967281
attribute [local irreducible] Calls
theorem uM {A : Nat → Prop} (v : NV) (n : Int) (h : aP v.c.ks = n) (w : World) (hN : NOk A w v) (hzk : v.kv.length ≤ 606626243774) (htb : aP v.c.ks ≤ 4611686018427387904) (hzi : ∀ u ∈ v.kv, u.k.ib.length ≤ 8796093022208) : Calls Tryz.prog 62 #[.agg ⟨NC v⟩] w fun e w' => e = .returned (.int .i64 n) ∧ Below w.heap.size w w' := by
  subst h
  exact Bz v w hN hzk htb hzi
end Go.Proofs.YtklcfjlmlbnkaaaGreatDoor.Y
namespace Go.Proofs.YtklcfjlmlbnkaaaGreatDoor.Y
open Go.RowKit
attribute [local irreducible] Calls
end Go.Proofs.YtklcfjlmlbnkaaaGreatDoor.Y
namespace Go.Proofs.YtklcfjlmlbnkaaaGreatDoor.Y
open Go.RowKit
attribute [local irreducible] Calls
end Go.Proofs.YtklcfjlmlbnkaaaGreatDoor.Y
namespace Go.Proofs.YtklcfjlmlbnkaaaGreatDoor.Y
open Go.RowKit
attribute [local irreducible] Calls
end Go.Proofs.YtklcfjlmlbnkaaaGreatDoor.Y
namespace Go.Proofs.YtklcfjlmlbnkaaaGreatDoor.Y
open Go.RowKit
attribute [local irreducible] Calls
end Go.Proofs.YtklcfjlmlbnkaaaGreatDoor.Y
namespace Go.Proofs.YtklcfjlmlbnkaaaGreatDoor.Y
open Go.RowKit
attribute [local irreducible] Calls
end Go.Proofs.YtklcfjlmlbnkaaaGreatDoor.Y
namespace Go.Proofs.YtklcfjlmlbnkaaaGreatDoor.Y
end Go.Proofs.YtklcfjlmlbnkaaaGreatDoor.Y
namespace Go.Proofs.YtklcfjlmlbnkaaaGreatDoor.Y
def exH : jU := ⟨⟨#[97, 46, 83]⟩, ⟨#[71, 101, 116]⟩, 0, []⟩
def Db (n : Int) : WinV := ⟨10, n, 0⟩
def G5 : NL := ⟨1, 1, 0, 0, 10, Db 10, Db 10, [], [], [], false⟩
theorem Jk : jN 1 10 = (G5, 0) := by kernel_rfl
def Ik (n : Int) (l : Int) : StV := ⟨1, 1, 4, n, 0, false, false, false, 0, ⟨#[]⟩, Db l, Db 10⟩
def FL : FrV := ⟨1, 1, 4, um exH⟩
def Il : NL := ⟨1, 2, 1, 0, 10, Db 10, Db 10, [⟨Ik 0 10, exH.svc, exH.mth, 0, [], [], []⟩], [FL], [], false⟩
theorem Jl : cu G5 exH 4 = (Il, 1, 0) := by kernel_rfl
end Go.Proofs.YtklcfjlmlbnkaaaGreatDoor.Y
namespace Go.Proofs.YtklcfjlmlbnkaaaGreatDoor.Y
open Go.RowKit
structure SzL (c : NL) : Prop where
  ks : c.ks.length ≤ 600000000
  ou : c.ou.length ≤ 1000000000 ∧ ∀ f ∈ c.ou, f.data.size < 4294967281
  pg : c.pg.length ≤ 1000000000
  tb : aP c.ks ≤ 4611686018427387904
  ok : ∀ k ∈ c.ks, k.ms.length ≤ 1000000000 ∧ k.ib.length ≤ 1000000000 ∧ k.ob.length ≤ 1000000000 ∧ k.st.text.size ≤ 4611686018427387900 ∧ (∀ f ∈ k.ob, f.data.size < 4294967281) ∧ aN k.ib ≤ 4611686018427387904 ∧ lg k.hd
theorem NOk.inks {A : Nat → Prop} {w : World} {v : NV} (h : NOk A w v) {u : KV} (hu : u ∈ v.kv) : u.k ∈ v.c.ks := by rw [h.eq]; exact List.mem_map_of_mem hu
theorem SzL.n {A : Nat → Prop} {w : World} {v : NV} (h : SzL v.c) (hN : NOk A w v) : DP v := by
  have h1 := h.ks
  have h2 := h.ou.1
  have h3 := h.pg
  have h4 := hN.lenk
  exact ⟨by omega, by omega, by omega, fun u hu => by
    obtain ⟨a, b, c, _⟩ := h.ok _ (hN.inks hu)
    exact ⟨by omega, by omega, by omega⟩⟩
theorem SzL.g {A : Nat → Prop} {w : World} {v : NV} (h : SzL v.c) (hN : NOk A w v) : FJ v := ⟨fun _ hu => (h.ok _ (hN.inks hu)).2.2.2.1, fun _ hu => (h.ok _ (hN.inks hu)).2.2.2.2.1, fun _ hu => (h.ok _ (hN.inks hu)).2.2.1, h.ou.1⟩
theorem SzL.v {A : Nat → Prop} {w : World} {v : NV} (h : SzL v.c) (hN : NOk A w v) : Jd v := ⟨fun _ hu => (h.ok _ (hN.inks hu)).2.2.2.2.2.1, h.tb, fun _ hu => (h.ok _ (hN.inks hu)).2.2.2.2.2.2, h.ou.2⟩
attribute [local irreducible] Calls
end Go.Proofs.YtklcfjlmlbnkaaaGreatDoor.Y
