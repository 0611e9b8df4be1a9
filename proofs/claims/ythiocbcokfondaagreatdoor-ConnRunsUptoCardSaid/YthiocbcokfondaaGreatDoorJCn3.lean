import Derived.Test.YthiocbcokfondaaGreatDoorJBunT
import Derived.Test.YthiocbcokfondaaGreatDoorJBunE
import Derived.Test.YthiocbcokfondaaGreatDoorJRegV
set_option maxRecDepth 100000
set_option maxHeartbeats 32000000
namespace Go.Proofs.YthiocbcokfondaaGreatDoor.Y
open Go.RowKit
theorem ng{O:Nat→Prop}{w w':World}{e:Ending}{T:TypeId}{size n:Nat}{xs:List Value}(h:∃p:Option Addr×Nat,True∧e= .returned (.slice p.1 n p.2)∧Made w w' [.own p.1 p.2 T size n xs]):
 (∃s:Option Addr×Nat,∃g:Nat→Prop,True∧e= .returned (.slice s.1 n s.2)∧MemL w.heap.size w' [.own s.1 s.2 T size n xs]∧(∀f∈ [Ent.own s.1 s.2 T size n xs],∀b,f.mut b→g b)∧(∀f∈ [Ent.own s.1 s.2 T size n xs],∀b,f.foot b→g b∨O b)∧ ∀b,g b→w.heap.size≤b∧b<w'.heap.size)∧Below w.heap.size w w':=by
 obtain⟨⟨a,c⟩,_,h2,h3⟩:=h
 refine⟨⟨(a,c),(Ent.own a c T size n xs).foot,trivial,h2,h3.mem,fun f hf b hb=> ?_,fun f hf b hb=> ?_,fun b hb=>⟨h3.new _ (List.mem_cons_self ..) b hb,Ent.ok.foot_lt h3.mem.1 hb⟩⟩,h3.below⟩
 · obtain rfl:=List.mem_singleton.1 hf
   exact Ent.mut_foot hb
 · obtain rfl:=List.mem_singleton.1 hf
   exact .inl hb
def EK(v:KV):List Ent:=[.own v.m v.mc 93 2 v.k.ms.length (v.k.ms.flatMap mC),.own v.o v.oc 65 4 v.k.ob.length (v.k.ob.flatMap fC),.own v.i v.ic 9 1 v.k.ib.length (v.k.ib.flatMap sC)]
theorem wZ(l:List KV):∀e∈l.flatMap EK,uO e=false:=fun e he=>by
 obtain⟨v,_,h⟩:=List.mem_flatMap.1 he
 simp only[EK,List.mem_cons,List.not_mem_nil,or_false]at h
 rcases h with rfl|rfl|rfl<;>rfl
theorem KOk.own{N:Nat}{w:World}{v:KV}(h:MemL N w (EK v)):KOk (fun b=>N≤b) w v:=⟨Rws.own fO h.1,Rws.own eX h.2.2.2.2.1,Rws.own dy h.2.2.1⟩
theorem nh{N:Nat}{w:World}{l:List KV}(h:MemL N w (l.flatMap EK)){v:KV}(hv:v∈l):MemL N w (EK v):=by
 induction l with
 |nil=>cases hv
 |cons a l ih=>
  obtain⟨h1,h2,_⟩:=MemL.split (M1:=EK a) h
  rcases List.mem_cons.1 hv with rfl|hv
  · exact h1
  · exact ih h2 hv
def EN(v:NV):List Ent:= .own v.p v.pc 3 1 v.c.pg.length (v.c.pg.flatMap iC):: .own v.o v.oc 65 4 v.c.ou.length (v.c.ou.flatMap fC):: .own v.x v.xc 39 22 v.kv.length (v.kv.flatMap KC)::v.kv.flatMap EK
theorem E8(v:NV):∀e∈EN v,uO e=false:=fun e he=>by
 rcases List.mem_cons.1 he with rfl|he
 · rfl
 · rcases List.mem_cons.1 he with rfl|he
   · rfl
   · rcases List.mem_cons.1 he with rfl|he
     · rfl
     · exact wZ _ e he
theorem NOk.own{N:Nat}{w:World}{v:NV}(h:MemL N w (EN v))(he:v.c.ks=v.kv.map (·.k)):NOk (fun b=>N≤b) w v:=
 ⟨Rws.own aO h.2.2.2.2.1,Rws.own dy h.2.2.1,Rws.own eJ h.1,he,fun _ hq=>KOk.own (nh h.2.2.2.2.2.2 hq)⟩
theorem dG{l:List KV}{k:Nat}{v:KV}(h:l[k]? =some v)(u:KV):(l.set k u)[k]? =some u:=by
 rw[List.getElem?_set_self]
 exact(List.getElem?_eq_some_iff.1 h).1
attribute [local irreducible] Calls
theorem dW{A:Nat→Prop}(v:NV)(w:World)(hN:NOk A w v)(hz:rk v):Calls Tryz.prog 38 #[.agg ⟨NC v⟩] w fun e w'=> ∃v':NV,(v'.c=v.c∧v'.kv.map (·.k)=v.kv.map (·.k))∧e= .returned (.agg ⟨NC v'⟩)∧Made w w' (EN v'):=by
 refine ai Tryz.func38 rfl Tryz.ntmps38 J J ?_
 obtain⟨hz1,hz2,hz3,hz4⟩:=hz
 refine aD ?_
 refine ap ?_
 (refine bx ?_;intro g1)
 (refine al ?_;intro g2)
 repeat' refine nx ?_
 refine cM (σ:=Option Addr×Nat) (fun _=>True) (fun p=> .slice p.1 v.kv.length p.2) (fun p=>[.own p.1 p.2 39 22 v.kv.length (v.kv.flatMap KC)]) rfl (ag J J J J ⟨J,trivial⟩ rfl (by kernel_rfl)) (fun w1 hm=>wO v.x v.kv v.xc w1 (hN.ks.below hm.below) (by omega)) J J ?_
 rintro⟨xa,xc⟩ -
 dsimp only[List.cons_append,List.nil_append]
 repeat' refine nx ?_
 refine bT (σ:=Nat×List KV) (fun p=>p.1≤v.kv.length∧p.2.length=p.1∧p.2.map (·.k)=(v.kv.take p.1).map (·.k)) (fun p=>[(12,[],.int .i64 ((p.1:Nat):Int)),(11,[],.int .i64 ((v.kv.length:Nat):Int)),(1,[],.pointer (some ⟨g1,0,none⟩)),(2,[],.pointer (some ⟨g2,0,none⟩))]) (fun p=> .own xa xc 39 22 v.kv.length ((p.2++v.kv.drop p.1).flatMap KC):: .cl g2 28 [.int .i64 0,.int .i64 0,.int .i64 0,.int .i64 0,.int .i64 0,.int .i64 0,.int .i64 0,.int .i64 0,.int .i64 0,.int .i64 0,.int .i64 0,.slice none 0 0,.slice none 0 0,.slice none 0 0,.bool false]:: .cl g1 28 [.int .i64 v.c.sd,.int .i64 v.c.nx,.int .i64 v.c.la,.int .i64 v.c.aw,.int .i64 v.c.sz,.int .i64 v.c.sw.size,.int .i64 v.c.sw.left,.int .i64 v.c.sw.held,.int .i64 v.c.rw.size,.int .i64 v.c.rw.left,.int .i64 v.c.rw.held,.slice xa v.kv.length xc,.slice v.o v.c.ou.length v.oc,.slice v.p v.c.pg.length v.pc,.bool v.c.cl]::p.2.flatMap EK) (fun p=>v.kv.length-p.1) (0,[]) [true,true,true] ⟨Nat.zero_le _,rfl,rfl⟩ ⟨J,J,J,J,trivial⟩ rfl ?_
 rintro⟨j,d⟩ ⟨hj0,hd,hmap⟩
 dsimp only at hj0 hd hmap ⊢
 by_cases hj:j<v.kv.length
 · obtain⟨u,hu0⟩:∃u,v.kv[j]? =some u:=⟨v.kv[j],List.getElem?_eq_getElem hj⟩
   have hu:=List.mem_of_getElem? hu0
   have hat:=Bo hd hu0
   obtain⟨hk1,hk2,hk3⟩:=hN.ok u hu
   obtain⟨hs1,hs2,hs3⟩:=hz4 u hu
   refine EW 0 rfl (by omega) ?_
   rintro gx rfl
   repeat' refine nx ?_
   refine af rfl (by simp;omega) ?_
   repeat' (first|refine vx rfl (ia (m:=22) j hj) ?_|refine nx ?_)
   refine fJ (fun _=>False) 19 [26,31,37] [] [] (fun _ _ _ h=>h.elim) ak rfl (by kernel_rfl) ?_
   iterate 7 (((refine' ji rfl ?_ J J J ?_);rotate_left;first|exact cw ae 0 (v:= .slice u.i u.k.ib.length u.ic) J J J J J J (fun _=>by rw[Nat.zero_add];exact bc aO hat (k:=20) rfl)|exact ax ae J J J J))
   refine eR (σ:=Option Addr×Nat) (fun _=>True) (fun s=> .slice s.1 u.k.ib.length s.2) (fun s=>[.own s.1 s.2 9 1 u.k.ib.length (u.k.ib.flatMap sC)]) rfl (ag J J J J ⟨J,trivial⟩ rfl (by kernel_rfl)) (fun w hm=>(yW u.i u.k.ib u.ic w (hk2.below hm.below) (by omega)).mono fun e w1 h=>ng h) J J J J J ?_
   iterate 4 (((refine' ji rfl ?_ J J J ?_);rotate_left;first|exact cw ae 0 (v:= .slice u.o u.k.ob.length u.oc) J J J J J J (fun _=>by rw[Nat.zero_add];exact bc aO hat (k:=21) rfl)|exact ax ae J J J J))
   refine eR (σ:=Option Addr×Nat) (fun _=>True) (fun s=> .slice s.1 u.k.ob.length s.2) (fun s=>[.own s.1 s.2 65 4 u.k.ob.length (u.k.ob.flatMap fC)]) rfl (ag J J J J ⟨J,trivial⟩ rfl (by kernel_rfl)) (fun w hm=>(sk u.o u.k.ob u.oc w (hk3.below hm.below) (by omega)).mono fun e w1 h=>ng h) J J J J J ?_
   iterate 5 (((refine' ji rfl ?_ J J J ?_);rotate_left;first|exact cw ae 0 (v:= .slice u.m u.k.ms.length u.mc) J J J J J J (fun _=>by rw[Nat.zero_add];exact bc aO hat (k:=19) rfl)|exact ax ae J J J J))
   refine eR (σ:=Option Addr×Nat) (fun _=>True) (fun s=> .slice s.1 u.k.ms.length s.2) (fun s=>[.own s.1 s.2 93 2 u.k.ms.length (u.k.ms.flatMap mC)]) rfl (ag J J J J ⟨J,trivial⟩ rfl (by kernel_rfl)) (fun w hm=>(ql u.m u.k.ms u.mc w (hk1.below hm.below) (by omega)).mono fun e w1 h=>ng h) J J J J J ?_
   refine lA ?_
   refine jP ?_
   rintro⟨pi,pic⟩ -
   refine jP ?_
   rintro⟨po,poc⟩ -
   refine jP ?_
   rintro⟨pm,pmc⟩ -
   refine ox ?_
   dsimp only[List.cons_append,List.nil_append]
   repeat' refine dx ?_
   refine cR ae 3 J J J J J J J J J (show jw _ (0+j * 22+20) _=_ from by rw[Nat.zero_add];exact cL aO (d++v.kv.drop j) j 20 (u) ({u with i:=pi,ic:=pic}) _ hat rfl) J J ?_
   repeat' refine dx ?_
   refine cR ae 3 J J J J J J J J J (show jw _ (0+j * 22+21) _=_ from by rw[Nat.zero_add];exact cL aO ((d++v.kv.drop j).set j {u with i:=pi,ic:=pic}) j 21 ({u with i:=pi,ic:=pic}) ({u with i:=pi,ic:=pic,o:=po,oc:=poc}) _ (dG hat _) rfl) J J ?_
   repeat' refine dx ?_
   refine cR ae 3 J J J J J J J J J (show jw _ (0+j * 22+19) _=_ from by rw[Nat.zero_add];exact cL aO (((d++v.kv.drop j).set j {u with i:=pi,ic:=pic}).set j {u with i:=pi,ic:=pic,o:=po,oc:=poc}) j 19 ({u with i:=pi,ic:=pic,o:=po,oc:=poc}) ({u with i:=pi,ic:=pic,o:=po,oc:=poc,m:=pm,mc:=pmc}) _ (dG (dG hat _) _) rfl) J J ?_
   repeat' (first|refine vx rfl (bm J J J J J (by omega)) ?_|refine dx ?_)
   refine gE (M':= .own (some ⟨gx,0,none⟩) xc 39 22 v.kv.length (((d++[{u with i:=pi,ic:=pic,o:=po,oc:=poc,m:=pm,mc:=pmc}])++v.kv.drop (j+1)).flatMap KC):: .cl g2 28 [.int .i64 0,.int .i64 0,.int .i64 0,.int .i64 0,.int .i64 0,.int .i64 0,.int .i64 0,.int .i64 0,.int .i64 0,.int .i64 0,.int .i64 0,.slice none 0 0,.slice none 0 0,.slice none 0 0,.bool false]:: .cl g1 28 [.int .i64 v.c.sd,.int .i64 v.c.nx,.int .i64 v.c.la,.int .i64 v.c.aw,.int .i64 v.c.sz,.int .i64 v.c.sw.size,.int .i64 v.c.sw.left,.int .i64 v.c.sw.held,.int .i64 v.c.rw.size,.int .i64 v.c.rw.left,.int .i64 v.c.rw.held,.slice (some ⟨gx,0,none⟩) v.kv.length xc,.slice v.o v.c.ou.length v.oc,.slice v.p v.c.pg.length v.pc,.bool v.c.cl]::(d++[{u with i:=pi,ic:=pic,o:=po,oc:=poc,m:=pm,mc:=pmc}]).flatMap EK) (fun w hM=> ?_) ?_
   · rw[List.set_set,List.set_set,xP hd hu0]at hM
     have h1:=hM.perm (H9 (EK {u with i:=pi,ic:=pic,o:=po,oc:=poc,m:=pm,mc:=pmc}) [_,_,_] (d.flatMap EK))
     rw[List.flatMap_append (xs:=d),List.flatMap_singleton (f:=EK)]
     exact h1
   · refine aY (j+1,d++[{u with i:=pi,ic:=pic,o:=po,oc:=poc,m:=pm,mc:=pmc}]) [] ⟨hj,by simp[hd],by rw[List.take_add_one,hu0];simp[hmap]⟩ (show v.kv.length - (j+1)<v.kv.length-j by omega) ⟨J,J,J,J,trivial⟩ rfl
 · have hjl:j=v.kv.length:=by omega
   subst hjl
   repeat' refine nx ?_
   refine aa rfl (by simp) ?_
   repeat' refine nx ?_
   refine fJ (fun _=>False) 7 [48,51] [] [] (fun _ _ _ h=>h.elim) ak rfl (by kernel_rfl) ?_
   iterate 2 (((refine' ji rfl ?_ J J J ?_);rotate_left;first|exact ax ae J J J J|exact ab ae 2 J J J J J))
   refine eR (σ:=Option Addr×Nat) (fun _=>True) (fun s=> .slice s.1 v.c.ou.length s.2) (fun s=>[.own s.1 s.2 65 4 v.c.ou.length (v.c.ou.flatMap fC)]) rfl (ag J J J J ⟨J,trivial⟩ rfl (by kernel_rfl)) (fun w hm=>(sk v.o v.c.ou v.oc w (hN.ou.below hm.below) (by omega)).mono fun e w1 h=>ng h) J J J J J ?_
   iterate 2 (((refine' ji rfl ?_ J J J ?_);rotate_left;first|exact ax ae J J J J|exact ab ae 2 J J J J J))
   refine eR (σ:=Option Addr×Nat) (fun _=>True) (fun s=> .slice s.1 v.c.pg.length s.2) (fun s=>[.own s.1 s.2 3 1 v.c.pg.length (v.c.pg.flatMap iC)]) rfl (ag J J J J ⟨J,trivial⟩ rfl (by kernel_rfl)) (fun w hm=>(yX v.p v.c.pg v.pc w (hN.pg.below hm.below) (by omega)).mono fun e w1 h=>ng h) J J J J J ?_
   ((refine' ji rfl ?_ J J J ?_);rotate_left;exact ax ae J J J J)
   refine lA ?_
   refine jP ?_
   rintro⟨oa,oc⟩ -
   refine jP ?_
   rintro⟨pa,pc⟩ -
   refine ox ?_
   dsimp only[List.cons_append,List.nil_append]
   repeat' refine nx ?_
   (refine rt ?_;refine fun w1 hm=>⟨⟨v.c,xa,xc,d,oa,oc,pa,pc⟩,⟨rfl,?_⟩,?_,?_⟩)
   · rw[hmap,List.take_length]
   · show Ending.returned (Value.agg ⟨[.int .i64 v.c.sd,.int .i64 v.c.nx,.int .i64 v.c.la,.int .i64 v.c.aw,.int .i64 v.c.sz,.int .i64 v.c.sw.size,.int .i64 v.c.sw.left,.int .i64 v.c.sw.held,.int .i64 v.c.rw.size,.int .i64 v.c.rw.left,.int .i64 v.c.rw.held,.slice xa v.kv.length xc,.slice oa v.c.ou.length oc,.slice pa v.c.pg.length pc,.bool v.c.cl]⟩)=_
     rw[←hd];rfl
   · refine Made.own ?_ (E8 _)
     have h1:=hm.mask [true,true,true,false,false] rfl
     rw[List.drop_length,List.append_nil]at h1
     unfold EN
     rw[show(⟨v.c,xa,xc,d,oa,oc,pa,pc⟩:NV).kv=d from rfl,hd]
     exact h1
end Go.Proofs.YthiocbcokfondaaGreatDoor.Y
