import Derived.Test.YthiocbcokfondaaGreatDoorChecked
import Derived.LaidMore
import Derived.OpenShut
import Derived.LaidHandle
import Derived.ChangeBears2
import Derived.MakeChecks
import Derived.WalkKit
import Derived.Below
import Derived.Lib.Hide
import Derived.Laws.Rows
import Derived.Carry
import Derived.OpenVars
import Derived.ShutString
import Derived.ProofKit
namespace Go.Proofs.YthiocbcokfondaaGreatDoor
section
open Go.RowKit Go.ChangeShapes
end
section
open Go.RowKit
def Bk(w:World)(g:Nat)(t:TypeId)(cs:Array Value):Prop:=w.heap[g]? =some (.cells cs t (0,0))
theorem Bk.here{w:World}{g:Nat}{t:TypeId}{cs:Array Value}(h:Bk w g t cs):g<w.heap.size:=(Array.getElem?_eq_some_iff.1 h).1
theorem Bk.at_{w:World}{g:Nat}{t:TypeId}{cs:Array Value}(h:Bk w g t cs)(i:Nat){v:Value}(hv:cs[i]? =some v):w.cell? ⟨g,i,none⟩=some v:=by
 rw[cell_of_row w g i cs t (0,0) h,hv]
theorem Bk.free{w:World}{g:Nat}{t:TypeId}{cs:Array Value}(h:Bk w g t cs):∀i,w.frozen? ⟨g,i,none⟩=false:=fun i=>frozen_of_row w g i cs t h
theorem Bk.new(w:World)(t:TypeId)(cs:Array Value):Bk (w.alloc (.cells cs t)) w.heap.size t cs:=heap_alloc_new w _
theorem Bk.keep{w w':World}{g:Nat}{t:TypeId}{cs:Array Value}(h:Bk w g t cs)(hb:Below w.heap.size w w'):Bk w' g t cs:=(hb.block g h.here).trans h
theorem Bk.more{w:World}{g:Nat}{t:TypeId}{cs:Array Value}(h:Bk w g t cs)(o:Obj):Bk (w.alloc o) g t cs:=h.keep ((Below.refl _ _).alloc (Nat.le_refl _) o)
theorem Bk.put{w:World}{g:Nat}{t:TypeId}{cs:Array Value}(h:Bk w g t cs)(i:Nat)(v:Value):Bk (w.setCell ⟨g,i,none⟩ v) g t (cs.setIfInBounds i v):=heap_setCell_same w g i cs t v h
structure AggT(P:Program)(ty:TypeId)(n:Nat):Prop where
 agg:(match P.underlying ty with|some (.struct _)=>true|some (.array _ _)=>true|_=>false)=true
 size:(P.info? ty).map (·.size)=some n
theorem AggT.load{P:Program}{w:World}{g:Nat}{t ty:TypeId}{cs:Array Value}(h:AggT P ty cs.size)(hb:Bk w g t cs):(loadVar ty ⟨g,0,none⟩).run P w= .ok (.agg cs) w:=by
 have h1:=h.agg
 cases hu:P.underlying ty with
 |none=>rw[hu]at h1;cases h1
 |some d=>
  rw[hu]at h1
  exact run_loadVar_row w g t ty cs (0,0) d hb hu (by cases d<;>simp_all) h.size
theorem dZ{P:Program}{fn:Func}{p q:Tmp}{ty:TypeId}(h:fn.results= #[.cell p ty,.tmp q])(tmps:Array Value){w:World}{g:Nat}{t:TypeId}{cs:Array Value}{v:Value}
 (hp:tmps.getD p undef= .pointer (some ⟨g,0,none⟩)) (hq:tmps.getD q undef=v) (hb:Bk w g t cs) (ha:AggT P ty cs.size):(results fn tmps).run P w= .ok (.tuple #[.agg cs,v]) w:=by
 have hp':tmps[p]?.getD undef= .pointer (some ⟨g,0,none⟩):=by simpa using hp
 have hq':tmps[q]?.getD undef=v:=by simpa using hq
 simp[results,h,hp',hq',asAddr,ha.load hb]
end
section
open Go.RowKit Go.WideShapes Go.ChangeShapes Go.ChangeAt
theorem lJ{H:Type}{enc:TypeId×Value→H}{P:Program}(hl:laidOutB P=true){W W':World}(hb:Below W.heap.size W W'):
 ∀ (ts:List TypeId) (vs:List Value) (ds:List (DataW H)) (ps:List MemPlace),(ts.all fun t=>P.readableRec t&&decide (t<P.types.size))=true→DataW.TrodAll enc P W 0 (fun _=>true) true ts vs ds ps→(∀x∈ps,x.block<W.heap.size)→
  DataW.TrodAll enc P W' 0 (fun b=>decide (b<W.heap.size)) true ts vs ds ps
 | [],_,_,_,_,h,_=>by obtain⟨rfl,rfl,rfl⟩:=trodAll_nil h;exact trodAll_mk0
 |t::ts,_,_,_,hr,h,hlt=>by
  obtain⟨v,vs1,d,ds1,a,b,rfl,rfl,rfl,h1,h2⟩:=trodAll_cons h
  simp only[List.all_cons,Bool.and_eq_true,decide_eq_true_eq]at hr
  exact trodAll_cons_mk (Below.trod hl hr.1.1 hr.1.2 h1 hb (fun x hx=>hlt x (List.mem_append_left _ hx))) (lJ hl hb ts vs1 ds1 b hr.2 h2 (fun x hx=>hlt x (List.mem_append_right _ hx)))
theorem AL{H:Type}{enc:TypeId×Value→H}{P:Program}(hl:laidOutB P=true){f:Func}{s:ChangeSpec}{apart fresh:Bool}{W W':World}{args:Array Value}{ds gs:List (DataW H)}{before:List MemPlace}{bt:TypeId}
 (hW:DataW.Whole enc P f.params.toList s.vars apart W args.toList ds gs before) (hb:Below W.heap.size W W')
 (hr:(f.params.toList.all fun t=>P.readableRec t&&decide (t<P.types.size))=true) (hv:varsRowed P s.vars=true) (hrt:f.resultTypes= #[bt]) (hbt:P.underlying bt=some .bool)
 (hs1:(s.fn H (ds++gs)).results=[.lit (.bool true)]) (hs2:(s.fn H (ds++gs)).args=ds) (hs3:(s.fn H (ds++gs)).vars=gs):
 s.post enc P f apart fresh false false W args (.bool true) W':=by
 have hW':=hW
 obtain⟨p,q,hA,hV,rfl,hz,hn⟩:=hW
 have hlt:=hW'.lt
 refine⟨ds,gs,_,[],p,q,hW',?_,?_,?_,Below.frame hb _,fun h=>by cases h⟩
 · rw[hs1,hrt]
   exact trodAll_cons_mk (shut_bool hbt _) trodAll_mk0
 · rw[hs2]
   exact lJ hl hb _ _ _ _ hr hA (fun x hx=>hlt x (List.mem_append_left _ hx))
 · rw[hs3]
   exact Below.trodVars hl hb hv hV
end
end Go.Proofs.YthiocbcokfondaaGreatDoor
