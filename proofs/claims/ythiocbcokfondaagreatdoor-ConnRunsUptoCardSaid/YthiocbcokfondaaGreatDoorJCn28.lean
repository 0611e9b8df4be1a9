import Derived.Test.YthiocbcokfondaaGreatDoorJBunC9
import Derived.Test.YthiocbcokfondaaGreatDoorJYv
import Derived.Test.YthiocbcokfondaaGreatDoorJCn25
import Derived.Test.YthiocbcokfondaaGreatDoorJBunC26
import Derived.Test.YthiocbcokfondaaGreatDoorJBunC17
import Derived.Test.YthiocbcokfondaaGreatDoorJBunQ
set_option maxRecDepth 100000
set_option maxHeartbeats 32000000
namespace Go.Proofs.YthiocbcokfondaaGreatDoor.Y
open Go.RowKit
section
variable {P:Program}{T:eV}{l0 rest:List Oper}{Z:Act→World→Prop}{Q:Exit→Act→World→Prop}{n:Nat}{w0:World}{S:co}{M M' M2:List Ent}{p:World→Prop}{L:Cd}{o:Oper}{d:Nat}
theorem lG(hT:TOK P T)(i:Nat){t:TypeId}{td:TD}{x y:Operand}{g off:Nat}{B:TypeId}{v:Value}{cs cs' vs:List Value}(h1:o.op= .store t x y)(hg:o.guard=none)(h2:ev S x=some ([],.pointer (some ⟨g,off,none⟩)))(h3:ev S y=some ([],v))
 (hm:ez M i=some (.cl g B cs)) (h4:eg v=some vs) (h5:lk t T=some td) (h6:Nat.beq vs.length td.size=true) (h7:fu vs=true) (h8:jw cs off vs=some cs') (h9:eP M i (.cl g B cs')=some M2) (hd:o.dst=none)
 (h:SQ Q .normal n w0 S M2):SY P l0 (hX P l0.toArray o (Q .normal)) [] n w0 M' p S M:=by
 refine⟨fun a w hS hM=> ?_⟩
 have hrun:(execOp a.eval o).run P w= .ok .skip (w.setRow g ⟨cs'⟩):=by
  unfold execOp
  simp only[h1,az hS h2 rfl,az hS h3 rfl,Sem.run_bind,fF hT (show Bk w g B ⟨cs⟩from(hM.2.get hm).2) h4 h5 h6 h7 h8]
  rfl
 have hM2:=hM.setRow hm h9
 refine dN (lx (by unfold Region.wanted;rw[hg]) fun K hK=> ?_)
 unfold Oper.wp
 rw[hrun]
 simp only[Oper.upon]
 refine hK _ _ (h.run _ _ ?_ hM2)
 first|exact hS|(rw[hd];exact hS)
end
def GF(o:xj)(hx:Option Addr)(hc:Nat):List Value:=[.int .i64 o.kind,.int .i64 o.id,.int .i64 o.n,.string o.msg,.string o.h.svc,.string o.h.mth,.int .i64 o.h.late,.slice hx o.h.metas.length hc,.int .i64 o.f.kind,.int .i64 o.f.strm,.int .i64 o.f.num,.string o.f.data,.int .i64 o.tc,.string o.tt]
def FL(r:Ha)(x:Option Addr×Nat):List Value:=[.int .i64 r.e,.int .i64 r.id,.string r.msg,.bool r.ok,.slice x.1 r.outs.length x.2]
structure OpOk(A:Nat→Prop)(w:World)(o:xj)(hx:Option Addr):Prop where
 ms:o.msg.size≤1048576
 hd:o.h.svc.size≤1048576∧o.h.mth.size≤1048576∧ ∀m∈o.h.metas,m.1.size≤1048576∧m.2.size≤1048576
 hl:o.h.metas.length≤1048576
 hR:Rws A w 2 mC hx o.h.metas
 fd:o.f.data.size≤1048576
 tt:o.tt.size≤1048576
theorem yu{h:io}(hd:h.svc.size≤1048576∧h.mth.size≤1048576∧ ∀m∈h.metas,m.1.size≤1048576∧m.2.size≤1048576):fK h:=
 ⟨by have:=hd.1;omega,by have:=hd.2.1;omega,fun m hm=>by have:=hd.2.2 m hm;exact⟨by omega,by omega⟩⟩
theorem Ad(m:ByteArray×ByteArray)(h:m.1.size≤1048576∧m.2.size≤1048576):(mK m).length≤2097172:=by
 unfold mK aN
 have h1:=(cq m.1.size).2
 have h2:=(cq m.2.size).2
 have e1:m.1.data.toList.length=m.1.size:=by rw[Array.length_toList];rfl
 have e2:m.2.data.toList.length=m.2.size:=by rw[Array.length_toList];rfl
 simp only[List.length_append]
 omega
theorem qU:∀l:List (ByteArray×ByteArray),(∀m∈l,m.1.size≤1048576∧m.2.size≤1048576)→(l.flatMap mK).length≤l.length * 2097172
 | [],_=>by simp
 |m::l,h=>by
  have h1:=qU l fun x hx=>h x (List.mem_cons_of_mem m hx)
  have h2:=Ad m (h m (List.mem_cons_self ..))
  rw[List.flatMap_cons,List.length_append,List.length_cons,Nat.succ_mul]
  omega
theorem oY(h:io)(hd:h.svc.size≤1048576∧h.mth.size≤1048576∧ ∀m∈h.metas,m.1.size≤1048576∧m.2.size≤1048576):(oQ h).size<4294967281:=by
 unfold oQ fY
 show(List.toArray _).size<_
 rw[List.size_toArray]
 by_cases he:bG h=0
 · rw[if_pos he]
   have hm:h.metas.length≤16:=by
    unfold bG at he
    refine Decidable.byContradiction fun hn=> ?_
    rw[if_pos (show 16<h.metas.length by omega)]at he
    split at he
    · omega
    · split at he<;>omega
   show(fX h).length<_
   unfold fX aN
   have h1:=(cq h.svc.size).2
   have h2:=(cq h.mth.size).2
   have h3:=(cq h.late.toNat).2
   have h4:=(cq h.metas.length).2
   have e1:h.svc.data.toList.length=h.svc.size:=by rw[Array.length_toList];rfl
   have e2:h.mth.data.toList.length=h.mth.size:=by rw[Array.length_toList];rfl
   have h5:=qU h.metas hd.2.2
   simp only[List.length_append]
   omega
 · rw[if_neg he]
   exact show(0:Nat)<4294967281 by decide
attribute [local irreducible] Calls
theorem Ae{A:Nat→Prop}(v:NV)(o:xj)(hx:Option Addr)(hc:Nat)(w:World)(hN:NOk A w v)(hv:VN v.c)(hms:aX v.c≤400000000)(hO:OpOk A w o hx)(hg:MLen w):Calls Tryz.prog 20 #[.agg ⟨NC v⟩,.agg #[.int .i64 o.kind,.int .i64 o.id,.int .i64 o.n,.string o.msg,.string o.h.svc,.string o.h.mth,.int .i64 o.h.late,.slice hx o.h.metas.length hc,.int .i64 o.f.kind,.int .i64 o.f.strm,.int .i64 o.f.num,.string o.f.data,.int .i64 o.tc,.string o.tt]] w fun e w'=> ∃v':NV,∃p:Option Addr×Nat,v'.c=cx v.c o∧e= .returned (.tuple #[.agg ⟨NC v'⟩,.agg ⟨FL (bY v.c o) p⟩])∧OutN A w w' v'∧Rws (fun b=>w.heap.size≤b) w' 4 fC p.1 (bY v.c o).outs:=by
 refine ai Tryz.func20 rfl Tryz.ntmps20 J J ?_
 have hz:=(hv.toVB.szl (by omega)).n hN
 have hgd:=(hv.toVB.szl (by omega)).g hN
 have hmsg:o.msg.size<4294967281:=by have:=hO.ms;omega
 have hfd:o.f.data.size<4294967281:=by have:=hO.fd;omega
 have htt:o.tt.size≤4611686018427387900:=by have:=hO.tt;omega
 have hkl:v.kv.length≤1000000000:=by
  have e:v.c.ks.length=v.kv.length:=by rw[hN.eq,List.length_map]
  have h9:=hms
  unfold aX at h9
  omega
 have hla:v.c.la≤4611686018427387904∧ -1≤v.c.la:=by have:=hv.la;omega
 iterate 2 refine nx ?_
 (refine bQ J J J J J J ?_;intro g2)
 (refine bQ J J J J J J ?_;intro g3)
 (refine br ae J J J J J J ?_;intro g4)
 (refine br ae J J J J J J ?_;intro g5)
 iterate 4 refine nx ?_
 (refine br ae J J J J J J ?_;intro g6)
 iterate 7 refine nx ?_
 refine tv (σ:=QS) (fun q=>q.V.c=cx v.c o∧(∀b,q.F b→A b∨w.heap.size≤b)∧bY v.c o=DS q.e) (fun q=>[(7,[],.int .i64 q.e),(6,[],.pointer (some ⟨g6,0,none⟩)),(5,[],.pointer (some ⟨g5,0,none⟩)),(4,[],.pointer (some ⟨g4,0,none⟩)),(2,[],.pointer (some ⟨g2,0,none⟩))]) (fun q=>[.rep q.F (fun w=>NOk q.F w q.V),.cl g6 61 [.int .i64 0,.int .i64 0,.string ⟨#[]⟩,.bool false,.slice none 0 0],.cl g5 61 [.int .i64 0,.int .i64 0,.string ⟨#[]⟩,.bool false,.slice none 0 0],.cl g4 28 [.int .i64 0,.int .i64 0,.int .i64 0,.int .i64 0,.int .i64 0,.int .i64 0,.int .i64 0,.int .i64 0,.int .i64 0,.int .i64 0,.int .i64 0,.slice none 0 0,.slice none 0 0,.slice none 0 0,.bool false],.cl g2 28 (NC q.V)]) ?_ ?_
 rotate_left
 · rintro⟨V,F,e⟩ ⟨hc,hF,he⟩
   dsimp only at hc hF he ⊢
   rw[he]
   repeat' refine nx ?_
   refine cT [false,true,false,false,true] (fun _=>True) ak (by kernel_rfl) J J (fun _ _=>trivial) ?_
   iterate 2 refine yv ?_
   refine kU ae 3 J J J J J J J J J J J J (fun w1 hM=>⟨hM.mask [false,true,false,false,true] rfl,trivial⟩) ?_
   refine lG ae 2 J J J J J J J J J J J J ?_
   repeat' refine nx ?_
   refine aI ae (fun t=>cond (Nat.beq t 4) 3 2) J J ⟨J,J,trivial⟩ rfl fun w1 hm=>⟨V,(none,0),hc,rfl,aL (hm.2.get (i:=0) rfl).2.1 hF hm.below,bV⟩
 repeat' refine nx ?_
 by_cases hk0:o.kind=0
 · refine af rfl (by simpa using hk0) ?_
   repeat' refine nx ?_
   have e1:cx v.c o=(bN v.c o.h o.n).1:=by unfold cx;rw[if_pos hk0]
   have e2:bY v.c o=⟨(bN v.c o.h o.n).2.2,(bN v.c o.h o.n).2.1,⟨#[]⟩,false,[]⟩:=by unfold bY;rw[if_pos hk0]
   rw[e1,e2]
   refine eM bd (fun w1 hm=>sT v o.h hx hc o.n w1 (hN.lt.below hm.below) hz hgd (hg.below hm.below) hv.toVB.acts hkl (hO.hR.lt.below hm.below) (yu hO.hd) (oY o.h hO.hd) (Nat.le_trans hO.hl (by decide))) ?_
   rintro V1 F1 hc1 hF1
   repeat' (first|(refine al ?_;intro g8)|refine nx ?_)
   refine aI ae (fun t=>cond (Nat.beq t 4) 4 3) J J ⟨J,J,trivial⟩ rfl fun w1 hm=>⟨V1,(none,0),hc1,rfl,aL (hm.2.get (i:=1) rfl).2.1 hF1 hm.below,bV⟩
 refine aa rfl (by simpa using hk0) ?_
 repeat' refine nx ?_
 by_cases hk1:o.kind=1
 · refine af rfl (by simpa using hk1) ?_
   repeat' refine nx ?_
   refine eM bd (fun w1 hm=>mv v o.id o.msg w1 (hN.lt.below hm.below) hz hgd (hg.below hm.below) hmsg) ?_
   rintro V1 F1 hc1 hF1
   repeat' refine nx ?_
   refine cJ (⟨V1,F1,(jF v.c o.id o.msg).2⟩:QS) [true,true,true,true,false,true] ⟨by rw[hc1];unfold cx;rw[if_neg hk0,if_pos hk1],hF1,by unfold bY;rw[if_neg hk0,if_pos hk1]⟩ ⟨J,J,J,J,J,trivial⟩ rfl
 refine aa rfl (by simpa using hk1) ?_
 repeat' refine nx ?_
 by_cases hk2:o.kind=2
 · refine af rfl (by simpa using hk2) ?_
   repeat' refine nx ?_
   refine eM bd (fun w1 hm=>Cq v o.id w1 (hN.lt.below hm.below) hz hgd (hg.below hm.below)) ?_
   rintro V1 F1 hc1 hF1
   repeat' refine nx ?_
   refine cJ (⟨V1,F1,(mT v.c o.id).2⟩:QS) [true,true,true,true,false,true] ⟨by rw[hc1];unfold cx;rw[if_neg hk0,if_neg hk1,if_pos hk2],hF1,by unfold bY;rw[if_neg hk0,if_neg hk1,if_pos hk2]⟩ ⟨J,J,J,J,J,trivial⟩ rfl
 refine aa rfl (by simpa using hk2) ?_
 repeat' refine nx ?_
 by_cases hk3:o.kind=3
 · refine af rfl (by simpa using hk3) ?_
   repeat' refine nx ?_
   refine eM bd (fun w1 hm=>Cr v o.id o.tc o.tt w1 (hN.lt.below hm.below) hz hgd (hg.below hm.below) htt) ?_
   rintro V1 F1 hc1 hF1
   repeat' refine nx ?_
   refine cJ (⟨V1,F1,(mU v.c o.id o.tc o.tt).2⟩:QS) [true,true,true,true,false,true] ⟨by rw[hc1];unfold cx;rw[if_neg hk0,if_neg hk1,if_neg hk2,if_pos hk3],hF1,by unfold bY;rw[if_neg hk0,if_neg hk1,if_neg hk2,if_pos hk3]⟩ ⟨J,J,J,J,J,trivial⟩ rfl
 refine aa rfl (by simpa using hk3) ?_
 repeat' refine nx ?_
 by_cases hk4:o.kind=4
 · refine af rfl (by simpa using hk4) ?_
   repeat' refine nx ?_
   refine eM bd (fun w1 hm=>Aa v o.id o.n w1 (hN.lt.below hm.below) hz hgd (hg.below hm.below)) ?_
   rintro V1 F1 hc1 hF1
   repeat' refine nx ?_
   refine cJ (⟨V1,F1,(ga v.c o.id o.n).2⟩:QS) [true,true,true,true,false,true] ⟨by rw[hc1];unfold cx;rw[if_neg hk0,if_neg hk1,if_neg hk2,if_neg hk3,if_pos hk4],hF1,by unfold bY;rw[if_neg hk0,if_neg hk1,if_neg hk2,if_neg hk3,if_pos hk4]⟩ ⟨J,J,J,J,J,trivial⟩ rfl
 refine aa rfl (by simpa using hk4) ?_
 repeat' refine nx ?_
 by_cases hk5:o.kind=5
 · refine af rfl (by simpa using hk5) ?_
   repeat' refine nx ?_
   have e1:cx v.c o=(de v.c o.id).1:=by unfold cx;rw[if_neg hk0,if_neg hk1,if_neg hk2,if_neg hk3,if_neg hk4,if_pos hk5]
   have e2:bY v.c o=⟨0,0,(de v.c o.id).2.1,(de v.c o.id).2.2,[]⟩:=by unfold bY;rw[if_neg hk0,if_neg hk1,if_neg hk2,if_neg hk3,if_neg hk4,if_pos hk5]
   rw[e1,e2]
   refine eM bd (fun w1 hm=>zR v o.id w1 (hN.lt.below hm.below) hv (by omega)) ?_
   rintro V1 F1 hc1 hF1
   repeat' (first|(refine al ?_;intro g11)|refine nx ?_)
   refine aI ae (fun t=>cond (Nat.beq t 4) 4 3) J J ⟨J,J,trivial⟩ rfl fun w1 hm=>⟨V1,(none,0),hc1,rfl,aL (hm.2.get (i:=1) rfl).2.1 hF1 hm.below,bV⟩
 refine aa rfl (by simpa using hk5) ?_
 repeat' refine nx ?_
 by_cases hk6:o.kind=6
 · refine af rfl (by simpa using hk6) ?_
   repeat' refine nx ?_
   refine eM bd (fun w1 hm=>zZ v o.f w1 (hN.lt.below hm.below) hv hms hfd (hg.below hm.below)) ?_
   rintro V1 F1 hc1 hF1
   repeat' refine nx ?_
   refine cJ (⟨V1,F1,(ci v.c o.f).2⟩:QS) [true,true,true,true,false,true] ⟨by rw[hc1];unfold cx;rw[if_neg hk0,if_neg hk1,if_neg hk2,if_neg hk3,if_neg hk4,if_neg hk5,if_pos hk6],hF1,by unfold bY;rw[if_neg hk0,if_neg hk1,if_neg hk2,if_neg hk3,if_neg hk4,if_neg hk5,if_pos hk6]⟩ ⟨J,J,J,J,J,trivial⟩ rfl
 refine aa rfl (by simpa using hk6) ?_
 repeat' refine nx ?_
 by_cases hk7:o.kind=7
 · refine af rfl (by simpa using hk7) ?_
   repeat' refine nx ?_
   have e1:cx v.c o=(kD v.c).1:=by unfold cx;rw[if_neg hk0,if_neg hk1,if_neg hk2,if_neg hk3,if_neg hk4,if_neg hk5,if_neg hk6,if_pos hk7]
   have e2:bY v.c o=⟨0,0,⟨#[]⟩,false,(kD v.c).2⟩:=by unfold bY;rw[if_neg hk0,if_neg hk1,if_neg hk2,if_neg hk3,if_neg hk4,if_neg hk5,if_neg hk6,if_pos hk7]
   rw[e1,e2]
   refine jJ (σ:=NV×(Option Addr×Nat)) (fun s F=>s.1.c=(kD v.c).1∧ ∀b,F b→A b∨w.heap.size≤b) (fun s=> .tuple ⟨[.agg ⟨NC s.1⟩,.slice s.2.1 v.c.ou.length s.2.2]⟩) (fun s F w1=>NOk F w1 s.1∧Rws (fun b=>F b∧w.heap.size≤b) w1 4 fC s.2.1 v.c.ou) rfl (ag J J J J ⟨J,trivial⟩ rfl (by kernel_rfl)) (fun w1 hm=>(qy v w1 (hN.lt.below hm.below) hz).mono fun e w2 ⟨v',pp,h1,h2,h3,h4⟩=>⟨(v',pp),fun b=>((A b∧b<w.heap.size)∨w1.heap.size≤b)∧b<w2.heap.size,⟨h1,fun _ hb=>hb.1.elim (fun h=> .inl h.1) (fun h=> .inr (Nat.le_trans hm.1.size h))⟩,h2,Mem.out hm (A:=fun b=>A b∧b<w.heap.size) (fun _ hb _ hf=>iv hm hb.2 hf) h3.2 (fun F w1=>NOk F w1 v'∧Rws (fun b=>F b∧w.heap.size≤b) w1 4 fC pp.1 v.c.ou) ⟨h3.1.lt,h4.lt.mono fun b hb=>⟨⟨.inr hb.1,hb.2⟩,Nat.le_trans hm.1.size hb.1⟩⟩ (fun F w3 w4 hk h=>⟨h.1.agree hk,h.2.agree fun b hb=>hk b hb.1⟩)⟩) J J ?_
   rintro⟨V1,la,lc⟩ F1 ⟨hc1,hF1⟩
   dsimp only at hc1
   repeat' (first|(refine al ?_;intro g14)|refine nx ?_)
   refine aI ae (fun t=>cond (Nat.beq t 4) 4 3) J J ⟨J,J,trivial⟩ rfl fun w1 hm=>⟨V1,(la,lc),hc1,rfl,aL (hm.2.get (i:=1) rfl).2.1.1 hF1 hm.below,(hm.2.get (i:=1) rfl).2.1.2.mono fun _ h=>h.2⟩
 refine aa rfl (by simpa using hk7) ?_
 repeat' refine nx ?_
 by_cases hk8:o.kind=8
 · refine af rfl (by simpa using hk8) ?_
   repeat' refine nx ?_
   refine eM bd (fun w1 hm=>zL v o.n w1 (hN.lt.below hm.below) hz hgd (hg.below hm.below)) ?_
   rintro V1 F1 hc1 hF1
   repeat' refine nx ?_
   refine cJ (⟨V1,F1,(eE v.c o.n).2⟩:QS) [true,true,true,true,false,true] ⟨by rw[hc1];unfold cx;rw[if_neg hk0,if_neg hk1,if_neg hk2,if_neg hk3,if_neg hk4,if_neg hk5,if_neg hk6,if_neg hk7,if_pos hk8],hF1,by unfold bY;rw[if_neg hk0,if_neg hk1,if_neg hk2,if_neg hk3,if_neg hk4,if_neg hk5,if_neg hk6,if_neg hk7,if_pos hk8]⟩ ⟨J,J,J,J,J,trivial⟩ rfl
 refine aa rfl (by simpa using hk8) ?_
 repeat' refine nx ?_
 by_cases hk9:o.kind=9
 · refine af rfl (by simpa using hk9) ?_
   repeat' refine nx ?_
   refine eM bd (fun w1 hm=>zM v w1 (hN.lt.below hm.below) hz hgd hla) ?_
   rintro V1 F1 hc1 hF1
   repeat' refine nx ?_
   refine cJ (⟨V1,F1,0⟩:QS) [true,true,true,true,false,true] ⟨by rw[hc1];unfold cx;rw[if_neg hk0,if_neg hk1,if_neg hk2,if_neg hk3,if_neg hk4,if_neg hk5,if_neg hk6,if_neg hk7,if_neg hk8,if_pos hk9],hF1,by unfold bY;rw[if_neg hk0,if_neg hk1,if_neg hk2,if_neg hk3,if_neg hk4,if_neg hk5,if_neg hk6,if_neg hk7,if_neg hk8]⟩ ⟨J,J,J,J,J,trivial⟩ rfl
 refine aa rfl (by simpa using hk9) ?_
 repeat' refine nx ?_
 by_cases hk10:o.kind=10
 · refine af rfl (by simpa using hk10) ?_
   repeat' refine nx ?_
   refine eM bd (fun w1 hm=>qR v w1 (hN.lt.below hm.below) hz hgd) ?_
   rintro V1 F1 hc1 hF1
   repeat' refine nx ?_
   refine cJ (⟨V1,F1,0⟩:QS) [true,true,true,true,false,true] ⟨by rw[hc1];unfold cx;rw[if_neg hk0,if_neg hk1,if_neg hk2,if_neg hk3,if_neg hk4,if_neg hk5,if_neg hk6,if_neg hk7,if_neg hk8,if_neg hk9,if_pos hk10],hF1,by unfold bY;rw[if_neg hk0,if_neg hk1,if_neg hk2,if_neg hk3,if_neg hk4,if_neg hk5,if_neg hk6,if_neg hk7,if_neg hk8]⟩ ⟨J,J,J,J,J,trivial⟩ rfl
 refine aa rfl (by simpa using hk10) ?_
 repeat' refine nx ?_
 by_cases hk11:o.kind=11
 · refine af rfl (by simpa using hk11) ?_
   repeat' refine nx ?_
   refine eM bd (fun w1 hm=>Ac v o.id w1 (hN.lt.below hm.below) hv (by omega)) ?_
   rintro V1 F1 hc1 hF1
   repeat' refine nx ?_
   refine cJ (⟨V1,F1,0⟩:QS) [true,true,true,true,false,true] ⟨by rw[hc1];unfold cx;rw[if_neg hk0,if_neg hk1,if_neg hk2,if_neg hk3,if_neg hk4,if_neg hk5,if_neg hk6,if_neg hk7,if_neg hk8,if_neg hk9,if_neg hk10,if_pos hk11],hF1,by unfold bY;rw[if_neg hk0,if_neg hk1,if_neg hk2,if_neg hk3,if_neg hk4,if_neg hk5,if_neg hk6,if_neg hk7,if_neg hk8]⟩ ⟨J,J,J,J,J,trivial⟩ rfl
 refine aa rfl (by simpa using hk11) ?_
 repeat' refine nx ?_
 refine⟨fun a w1 hS hM=> ?_⟩
 refine SQ.run (M:=[.rep _ (fun w=>NOk _ w v),.cl g6 61 [.int .i64 0,.int .i64 0,.string ⟨#[]⟩,.bool false,.slice none 0 0],.cl g5 61 [.int .i64 0,.int .i64 0,.string ⟨#[]⟩,.bool false,.slice none 0 0],.cl g4 28 [.int .i64 0,.int .i64 0,.int .i64 0,.int .i64 0,.int .i64 0,.int .i64 0,.int .i64 0,.int .i64 0,.int .i64 0,.int .i64 0,.int .i64 0,.slice none 0 0,.slice none 0 0,.slice none 0 0,.bool false],.cl g3 67 [.int .i64 o.kind,.int .i64 o.id,.int .i64 o.n,.string o.msg,.string o.h.svc,.string o.h.mth,.int .i64 o.h.late,.slice hx o.h.metas.length hc,.int .i64 o.f.kind,.int .i64 o.f.strm,.int .i64 o.f.num,.string o.f.data,.int .i64 o.tc,.string o.tt],.cl g2 28 (NC v)]) ?_ a w1 hS (nk hM hN)
 refine cJ (⟨v,_,0⟩:QS) [true,true,true,true,false,true] ⟨by unfold cx;rw[if_neg hk0,if_neg hk1,if_neg hk2,if_neg hk3,if_neg hk4,if_neg hk5,if_neg hk6,if_neg hk7,if_neg hk8,if_neg hk9,if_neg hk10,if_neg hk11],fun b hb=>hb.1.elim (fun h=> .inl h.1) (fun h=> .inr (Nat.le_trans hM.1.size h)),by unfold bY;rw[if_neg hk0,if_neg hk1,if_neg hk2,if_neg hk3,if_neg hk4,if_neg hk5,if_neg hk6,if_neg hk7,if_neg hk8]⟩ ⟨J,J,J,J,J,trivial⟩ rfl
end Go.Proofs.YthiocbcokfondaaGreatDoor.Y
