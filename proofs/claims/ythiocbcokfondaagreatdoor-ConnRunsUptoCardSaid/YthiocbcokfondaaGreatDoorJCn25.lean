import Derived.Test.YthiocbcokfondaaGreatDoorJBunT
import Derived.Test.YthiocbcokfondaaGreatDoorJBunC23
set_option maxRecDepth 100000
set_option maxHeartbeats 32000000
namespace Go.Proofs.YthiocbcokfondaaGreatDoor.Y
open Go.RowKit
abbrev Hc(gc:Nat)(F:Nat→Prop)(v:NV)(M:List Ent):List Ent:= .own v.o v.oc 65 4 v.c.ou.length (v.c.ou.flatMap fC):: .own v.x v.xc 39 22 v.kv.length (v.kv.flatMap KC):: .cl gc 28 [.int .i64 v.c.sd,.int .i64 v.c.nx,.int .i64 v.c.la,.int .i64 v.c.aw,.int .i64 v.c.sz,.int .i64 v.c.sw.size,.int .i64 v.c.sw.left,.int .i64 v.c.sw.held,.int .i64 v.c.rw.size,.int .i64 v.c.rw.left,.int .i64 v.c.rw.held,.slice v.x v.kv.length v.xc,.slice v.o v.c.ou.length v.oc,.slice v.p v.c.pg.length v.pc,.bool v.c.cl]:: .rep F (fun w=>Rws F w 1 iC v.p v.c.pg∧ ∀u∈v.kv,KOk F w u)::M
theorem yt{w0 w:World}{a b c e:Ent}{M:List Ent}{F:Nat→Prop}{P:World→Prop}(h:Mem w0 w (a::b::c::e:: .rep F P::M))(Q:World→Prop)(hq:∀w,Ent.ok w0.heap.size w e→P w→Q w)(hk:∀w1 w2,(∀k,(e.foot k∨F k)→w2.heap[k]? =w1.heap[k]?)→Q w1→Q w2):Mem w0 w (a::b::c:: .rep (fun k=>e.foot k∨F k) Q::M):=by
 have hp:(a::b::c::e:: .rep F P::M).Perm ([e,.rep F P]++(a::b::c::M)):=List.perm_append_comm (l₁:=[a,b,c]) (l₂:=[_,_])|>.append_right M
 have h2:=Mem.fuse [e,.rep F P] (fun k=>e.foot k∨F k) Q (h.perm hp) rfl (fun k hk=>hk.elim (fun h=>⟨_,List.mem_cons_self ..,h⟩) (fun h=>⟨_,List.mem_cons_of_mem _ (List.mem_cons_self ..),h⟩)) (fun hm=>hq w hm.1 hm.2.2.1.2.1) hk
 exact h2.perm (List.perm_middle (l₁:=[a,b,c]) (l₂:=M)).symm
theorem sW{w0 w:World}{gc:Nat}{F:Nat→Prop}{v:NV}{M:List Ent}(h:Mem w0 w (CM gc F v M))(hF:∀b,F b→w0.heap.size≤b):∃F':Nat→Prop,Mem w0 w (Hc gc F' v M)∧ ∀b,F' b→w0.heap.size≤b:=by
 refine⟨fun k=>(Ent.own v.p v.pc 3 1 v.c.pg.length (v.c.pg.flatMap iC)).foot k∨F k,?_,fun b hb=>hb.elim (fun h1=>(jG (h.2.get (i:=3) rfl) h1).1) (hF b)⟩
 exact yt h _ (fun w2 ho hp=>⟨(eA eJ ho rfl).mono fun _ h=> .inl h,fun u hu=>(hp u hu).mono fun _=> .inr⟩) (fun w1 w2 hk hp=>⟨hp.1.agree hk,fun u hu=>(hp.2 u hu).agree hk⟩)
theorem Cz(g a b c d:Ent)(E M:List Ent):(g::a::b::c::d::(E++M)).Perm (a::b::c::d::(E++(g::M))):=by
 have h:=(List.perm_middle (a:=g) (l₁:=a::b::c::d::E) (l₂:=M)).symm
 simpa using h
theorem CA{w:World}{B cap:Nat}{T:TypeId}{a:Option Addr}{l:List Int}{n:Int}{xs:List Value}(h:w.ownsRow B T 1 (.slice a (l.length+1) cap) (l.length+1) (l.flatMap iC++xs))(hx:xs=iC n):w.ownsRow B T 1 (.slice a (l++[n]).length cap) (l++[n]).length ((l++[n]).flatMap iC):=by
 rw[List.length_append,List.flatMap_append,List.flatMap_singleton,←hx]
 exact h
theorem zX{α:Type}{A:Nat→Prop}{w:World}{sz:Nat}{f:α→List Value}{a:Option Addr}{l:List α}{cap k:Nat}(h:Rws A w sz f a l)(hc:l.length≤cap):Rws A w sz f (if cap=k then a else a.map (·.add (k * sz))) (l.drop k):=fun h0=>by
 rw[List.length_drop]at h0
 obtain⟨b,off,h1,h2,h3,h4⟩:=h (by omega)
 refine⟨b,off+k * sz,?_,h2,h3,fun j v hj=> ?_⟩
 · rw[if_neg (by omega),h1]
   simp[Addr.add_mid]
 · rw[List.getElem?_drop]at hj
   have:=h4 (k+j) v hj
   rw[show off+k * sz+j * sz=off+(k+j) * sz by rw[Nat.add_mul];omega]
   exact this
structure IJ(c:NL)(f:aS):Prop where
 fe:aA f=0
 k1:f.kind=1→c.sd=2∧c.la<f.strm
 k2:f.kind=2→aG f.data≤c.rw.left
 k6:f.kind=6→f.strm=0→(cy c.sw f.num).err=0
theorem IK{c:NL}{f:aS}(h:VN c)(hr:gy c f=0):IJ c f:=by
 unfold gy at hr
 split at hr
 · cases hr
 rename_i g1
 split at hr
 · cases hr
 rename_i g2
 split at hr
 · cases hr
 rename_i g3
 split at hr
 · cases hr
 rename_i g4
 have hf:aA f=0:=Decidable.not_not.1 fun e=>g1 (.inl e)
 have hfo:og c.sd f.kind=false:=eq_false_of_ne_true fun e=>g1 (.inr e)
 refine⟨hf,fun hk=>⟨?_,?_⟩,fun hk=>(by have:=fun e=>g3 ⟨hk,e⟩;omega),fun a b=>Decidable.not_not.1 fun e=>g4 ⟨a,b,e⟩⟩
 · rcases h.sd with e|e
   · rw[e,hk]at hfo;exact absurd hfo (by decide)
   · exact e
 · by_cases e:f.strm≤c.la
   · exact absurd (propext ⟨fun _=>e,fun _=>hk⟩) g2
   · omega
attribute [local irreducible] Calls
theorem zY{w0:World}{M:List Ent}(gc:Nat)(v:NV)(f:aS)(w:World)(hv:VN v.c)(hms:aX v.c≤400000000)(heq:v.c.ks=v.kv.map (·.k))(hcap:∀u∈v.kv,u.k.ib.length≤u.ic∧u.k.ob.length≤u.oc)(hcl:v.c.cl=false)(hre:gy v.c f=0)(hfd:f.data.size<4294967281)(hg:MLen w0)(hM:Mem w0 w (.own v.o v.oc 65 4 v.c.ou.length (v.c.ou.flatMap fC):: .own v.x v.xc 39 22 v.kv.length (v.kv.flatMap KC):: .cl gc 28 [.int .i64 v.c.sd,.int .i64 v.c.nx,.int .i64 v.c.la,.int .i64 v.c.aw,.int .i64 v.c.sz,.int .i64 v.c.sw.size,.int .i64 v.c.sw.left,.int .i64 v.c.sw.held,.int .i64 v.c.rw.size,.int .i64 v.c.rw.left,.int .i64 v.c.rw.held,.slice v.x v.kv.length v.xc,.slice v.o v.c.ou.length v.oc,.slice v.p v.c.pg.length v.pc,.bool v.c.cl]:: .own v.p v.pc 3 1 v.c.pg.length (v.c.pg.flatMap iC)::(v.kv.flatMap EK++M))):Calls Tryz.prog 69 #[.pointer (some ⟨gc,0,none⟩),.agg #[.int .i64 f.kind,.int .i64 f.strm,.int .i64 f.num,.string f.data]] w fun e w'=> ∃r:Value×NV×(Nat→Prop),(r.2.1.c=ii v.c f∧r.2.1.c.ks=r.2.1.kv.map (·.k)∧ ∀b,r.2.2 b→w0.heap.size≤b)∧e= .returned r.1∧Mem w0 w' (Hc gc r.2.2 r.2.1 M):=by
 obtain⟨hf,a1,a2,a6⟩:=IK hv hre
 have hsz:=hv.toVB.szl (by omega)
 have hlk:v.c.ks.length=v.kv.length:=by rw[heq,List.length_map]
 have hks:=hsz.ks
 have hoz:=hsz.ou.1
 have hfk:=pB hf
 have hpg:=hv.pg
 have hal:ii v.c f=if f.kind=1 then gb v.c f else if f.kind=2 then lP v.c f else if f.kind=7 then {v.c with ou:=v.c.ou++[⟨8,0,f.num,emptyB⟩]}else if f.kind=8 then {v.c with pg:=(v.c.pg++[f.num]).drop (v.c.pg.length+1-16)}else if f.kind=9 then oe {v.c with aw:=if v.c.aw=0∨f.num+1<v.c.aw then f.num+1 else v.c.aw} f.num else gf v.c f:=rfl
 rw[hal]
 by_cases hk1:f.kind=1
 · refine cz hM Tryz.func69 rfl Tryz.ntmps69 J J ?_
   repeat' (first|(refine bx ?_;intro g3)|refine nx ?_)
   refine af rfl (by simpa using hk1) ?_
   repeat' refine dx ?_
   rw[if_pos hk1]
   refine bL (σ:=Value×NV×(Nat→Prop)) (fun r=>r.2.1.c=gb v.c f∧r.2.1.c.ks=r.2.1.kv.map (·.k)∧ ∀b,r.2.2 b→w0.heap.size≤b) (fun r=>r.1) (fun r=>CM gc r.2.2 r.2.1 _) rfl (ag J J J J ⟨J,J,trivial⟩ rfl (by kernel_rfl)) (fun w1 hM=>(zV gc v f w1 hv (by omega) heq hfd hg (hM.perm (Cz _ _ _ _ _ _ _))).mono fun e w' ⟨r,h1,h2,h3⟩=>⟨r,h1,h2,h3⟩) J J ?_
   rintro⟨rv,v2,F2⟩ ⟨q1,q2,q3⟩
   dsimp only at q1 q2 q3 ⊢
   repeat' refine dx ?_
   (refine cu ae (fun _=>0) J J trivial rfl fun w1 hm=> ?_)
   obtain⟨F3,h1,h2⟩:=sW (hm.mask [true,true,true,true,true,false] rfl) q3
   exact⟨(_,v2,F3),⟨q1,q2,h2⟩,rfl,h1⟩
 rw[if_neg hk1]
 by_cases hk2:f.kind=2
 · refine cz hM Tryz.func69 rfl Tryz.ntmps69 J J ?_
   repeat' (first|(refine bx ?_;intro g3)|refine nx ?_)
   refine aa rfl (by simpa using hk1) ?_
   repeat' refine nx ?_
   refine af rfl (by simpa using hk2) ?_
   repeat' refine dx ?_
   rw[if_pos hk2]
   refine bL (σ:=Value×NV×(Nat→Prop)) (fun r=>r.2.1.c=lP v.c f∧r.2.1.c.ks=r.2.1.kv.map (·.k)∧ ∀b,r.2.2 b→w0.heap.size≤b) (fun r=>r.1) (fun r=>CM gc r.2.2 r.2.1 _) rfl (ag J J J J ⟨J,J,trivial⟩ rfl (by kernel_rfl)) (fun w1 hM=>(zU gc v f w1 hv (by omega) heq hcl hf hk2 (a2 hk2) hg (hM.perm (Cz _ _ _ _ _ _ _))).mono fun e w' ⟨r,h1,h2,h3⟩=>⟨r,h1,h2,h3⟩) J J ?_
   rintro⟨rv,v2,F2⟩ ⟨q1,q2,q3⟩
   dsimp only at q1 q2 q3 ⊢
   repeat' refine dx ?_
   (refine cu ae (fun _=>0) J J trivial rfl fun w1 hm=> ?_)
   obtain⟨F3,h1,h2⟩:=sW (hm.mask [true,true,true,true,true,false] rfl) q3
   exact⟨(_,v2,F3),⟨q1,q2,h2⟩,rfl,h1⟩
 rw[if_neg hk2]
 by_cases hk7:f.kind=7
 · rw[if_pos hk7]
   obtain⟨hM,hFK⟩:=oD hM
   refine cz hM Tryz.func69 rfl Tryz.ntmps69 J J ?_
   repeat' (first|(refine bx ?_;intro g3)|refine nx ?_)
   refine aa rfl (by simpa using hk1) ?_
   repeat' refine nx ?_
   refine aa rfl (by simpa using hk2) ?_
   repeat' refine nx ?_
   refine af rfl (by simpa using hk7) ?_
   repeat' (first|refine vx rfl (aj ae J J ⟨J,J,J,J,J,J,J,J,trivial⟩ J J J) ?_|refine bD ?_|(refine bO ?_;intro g)|((refine' cB rfl ?_ J J J ?_);rotate_left;first|exact ax ae J J J J|exact aM ae J J J J J J|exact cE J J J J J|exact dj J J J J J|exact ab ae 0 J J J J J|exact ab ae 1 J J J J J|exact ab ae 2 J J J J J|exact ab ae 3 J J J J J|exact ab ae 4 J J J J J|exact ab ae 5 J J J J J|exact ab ae 6 J J J J J|exact ab ae 7 J J J J J|exact gR ae ie J J J J J J (by kernel_rfl)|exact gS ae ie J J J J J J (by kernel_rfl)|exact dv ae J J J J J J J|exact gu J J J J J|exact jq J J J J J|exact lM J J J J J J J|exact aj ae J J trivial J J J|exact aj ae J J ⟨J,trivial⟩ J J J|exact aj ae J J ⟨J,J,trivial⟩ J J J|exact aj ae J J ⟨J,J,J,trivial⟩ J J J|exact aj ae J J ⟨J,J,J,J,trivial⟩ J J J|exact aj ae J J ⟨J,J,J,J,J,trivial⟩ J J J|exact aj ae J J ⟨J,J,J,J,J,J,trivial⟩ J J J|exact aj ae J J ⟨J,J,J,J,J,J,J,trivial⟩ J J J|exact aj ae J J ⟨J,J,J,J,J,J,J,J,trivial⟩ J J J)|(refine bx ?_;intro g)|(refine al ?_;intro g)|refine cg ae J J J J J J ?_|refine jr J J J J J J ?_|refine nx ?_)
   refine dk 9 ak rfl (by kernel_rfl) ?_
   iterate 8 (((refine' cB rfl ?_ J J J ?_);rotate_left;first|exact ax ae J J J J|exact ab ae 0 J J J J J|exact ab ae 3 J J J J J|exact aj ae J J ⟨J,J,trivial⟩ J J J))
   refine dT ae J J J ⟨J,trivial⟩ J J J J J J J J ?_
   refine bO ?_
   intro s1
   refine bB ae 2 0 J J J J J J J J J (fun _ _=>rfl) fP J J (by unfold maxLen;omega) (by omega) J J ?_
   intro sa sc
   repeat' refine dx ?_
   (refine cu ae (fun _=>0) J J trivial rfl fun w1 hm=> ?_)
   have h0:Mem w0 w1 (CM gc (FK v.kv) ⟨{v.c with ou:=v.c.ou++[(⟨8,0,f.num,emptyB⟩:aS)]},v.x,v.xc,v.kv,sa,sc,v.p,v.pc⟩ M):=by
    have h1:=hm.mask [false,false,true,true,true,true,true] rfl
    unfold CM
    simp only[List.length_append,List.length_singleton,List.flatMap_append,List.flatMap_singleton]
    exact h1
   obtain⟨F3,h1,h2⟩:=sW h0 hFK
   exact⟨(_,⟨{v.c with ou:=v.c.ou++[(⟨8,0,f.num,emptyB⟩:aS)]},v.x,v.xc,v.kv,sa,sc,v.p,v.pc⟩,F3),⟨rfl,heq,h2⟩,rfl,h1⟩
 rw[if_neg hk7]
 by_cases hk8:f.kind=8
 · rw[if_pos hk8]
   obtain⟨hM,hFK⟩:=oD hM
   refine cz hM Tryz.func69 rfl Tryz.ntmps69 J J ?_
   repeat' (first|(refine bx ?_;intro g3)|refine nx ?_)
   refine aa rfl (by simpa using hk1) ?_
   repeat' refine nx ?_
   refine aa rfl (by simpa using hk2) ?_
   repeat' refine nx ?_
   refine aa rfl (by simpa using hk7) ?_
   repeat' refine nx ?_
   refine af rfl (by simpa using hk8) ?_
   repeat' refine nx ?_
   refine dk 8 ak rfl (by kernel_rfl) ?_
   iterate 7 (((refine' cB rfl ?_ J J J ?_);rotate_left;first|exact ax ae J J J J|exact ab ae 0 J J J J J|exact ab ae 3 J J J J J))
   refine dT ae J J J ⟨J,trivial⟩ J J J J J J J J ?_
   refine bO ?_
   intro s1
   refine bB ae 5 0 J J J J J J J J J (fun _ _=>rfl) xQ J J (by unfold maxLen;omega) (by omega) J J ?_
   intro qa qc
   refine df (fun w1 hm=>fo (hm.2.get (i:=5) rfl)) (fun hqc=> ?_)
   have hmx:(if((v.c.pg.length+1:Nat):Int)-16>0 then((v.c.pg.length+1:Nat):Int)-16 else 0)=((v.c.pg.length+1-16:Nat):Int):=by split<;>omega
   repeat' (first|refine vx rfl (mg J J J J J (by omega)) ?_|refine vx rfl (dQ ae (v.c.pg.length+1-16) (v.c.pg.length+1) J J J J J J J J J hmx rfl (by omega) hqc) ?_|refine aF ak rfl (by kernel_rfl) ?_|refine bD ?_|((refine' cB rfl ?_ J J J ?_);rotate_left;first|exact mg J J J J J (by omega)|exact dQ ae (v.c.pg.length+1-16) (v.c.pg.length+1) J J J J J J J J J hmx rfl (by omega) hqc|exact ax ae J J J J|exact ab ae 4 J J J J J|exact dv ae J J J J J J J|exact gu J J J J J)|refine dx ?_)
   (refine cu ae (fun _=>0) J J trivial rfl fun w1 hm=> ?_)
   have h1:=hm.mask [false,false,true,true,true,true,true] rfl
   have hln:((v.c.pg++[f.num]).drop (v.c.pg.length+1-16)).length=v.c.pg.length+1 - (v.c.pg.length+1-16):=by rw[List.length_drop,List.length_append,List.length_singleton]
   refine⟨(_,⟨{v.c with pg:=(v.c.pg++[f.num]).drop (v.c.pg.length+1-16)},v.x,v.xc,v.kv,v.o,v.oc,(if qc=v.c.pg.length+1-16 then qa else qa.map (·.add ((v.c.pg.length+1-16) * 1))),qc - (v.c.pg.length+1-16)⟩,fun k=>(Ent.own qa qc 3 1 (v.c.pg.length+1) (v.c.pg.flatMap iC++iC f.num)).foot k∨FK v.kv k),⟨rfl,heq,fun k hk=>hk.elim (fun h=>(jG (h1.2.get (i:=3) rfl) h).1) (hFK k)⟩,rfl,?_⟩
   unfold Hc
   dsimp only
   rw[hln]
   refine yt h1 _ (fun w2 ho hp=>⟨?_,fun u hu=>(hp u hu).mono fun _=> .inr⟩) (fun w1 w2 hk hp=>⟨hp.1.agree hk,fun u hu=>(hp.2 u hu).agree hk⟩)
   have hr:=(eA eJ (CA (n:=f.num) ho rfl) rfl)
   exact(zX hr (by rw[List.length_append,List.length_singleton];exact hqc)).mono fun _ h=> .inl h
 rw[if_neg hk8]
 by_cases hk9:f.kind=9
 · rw[if_pos hk9]
   have hnum:=mx hf
   unfold cV at hnum
   rw[hk9]at hnum
   have hnum2:0≤f.num∧f.num≤2147483647:=by simpa using hnum
   have haw:=hv.aw
   have hkz:∀u∈v.kv,u.k.st.text.size≤4611686018427387900:=fun u hu=>(hsz.ok u.k (by rw[heq];exact List.mem_map_of_mem hu)).2.2.2.1
   obtain⟨hM,hFK⟩:=oD hM
   refine cz hM Tryz.func69 rfl Tryz.ntmps69 J J ?_
   repeat' (first|(refine bx ?_;intro g3)|refine nx ?_)
   refine aa rfl (by simpa using hk1) ?_
   repeat' refine nx ?_
   refine aa rfl (by simpa using hk2) ?_
   repeat' refine nx ?_
   refine aa rfl (by simpa using hk7) ?_
   repeat' refine nx ?_
   refine aa rfl (by simpa using hk8) ?_
   repeat' refine nx ?_
   refine af rfl (by simpa using hk9) ?_
   repeat' (first|refine aF ak rfl (by kernel_rfl) ?_|refine bD ?_|((refine' cB rfl ?_ J J J ?_);rotate_left;first|exact bm J J J J J (by omega)|exact ax ae J J J J|exact aM ae J J J J J J|exact cE J J J J J|exact ab ae 0 J J J J J|exact ab ae 3 J J J J J)|refine nx ?_)
   by_cases hw:v.c.aw=0∨f.num+1<v.c.aw
   · rw[if_pos hw]
     refine af rfl (by simp only[Bool.or_eq_true,beq_iff_eq,decide_eq_true_eq];exact hw) ?_
     repeat' (first|refine vx rfl (bm J J J J J (by omega)) ?_|refine dx ?_)
     refine bU (fun w1 hm=>hm.perm (Hb _ _ _ _ _)) ?_
     refine bL (σ:=Value) (fun _=>True) (fun r=>r) (fun _=>_) rfl (ag J J J J ⟨J,J,trivial⟩ rfl (by kernel_rfl)) (fun w1 hM=>(qQ gc v.x v.xc _ _ _ _ _ _ _ _ _ _ _ _ _ _ v.kv f.num w1 (by omega) hkz hM).mono fun e w' ⟨r,h1,h2,h3⟩=>⟨r,trivial,h2,h3⟩) J J ?_
     rintro rv -
     repeat' refine dx ?_
     (refine cu ae (fun _=>0) J J trivial rfl fun w1 hm=> ?_)
     have h0:Mem w0 w1 (CM gc (FK v.kv) ⟨oe {v.c with aw:=f.num+1} f.num,v.x,v.xc,v.kv.map (jv f.num),v.o,v.oc,v.p,v.pc⟩ M):=by
      have h1:=(hm.mask [true,true,false,true,true,true] rfl).perm (List.perm_middle (l₁:=[_,_]))
      unfold CM
      dsimp only
      rw[List.length_map]
      have h2:=h1.perm (List.perm_middle (l₁:=[_,_,_,_]))
      refine(h2.repTo (fun w h x hx=> ?_) (fun w1 w2 hk h x hx=>(h x hx).agree hk)).perm (List.perm_middle (l₁:=[_,_,_,_])).symm
      obtain⟨u0,hu0,rfl⟩:=List.mem_map.1 hx
      exact tY (h u0 hu0)
     obtain⟨F3,h1,h2⟩:=sW h0 hFK
     refine⟨(_,_,F3),⟨rfl,?_,h2⟩,rfl,h1⟩
     show v.c.ks.map (gv f.num)=(v.kv.map (jv f.num)).map (·.k)
     rw[heq,List.map_map,List.map_map]
     exact List.map_congr_left fun u _=>(xk f.num u).symm
   · rw[if_neg hw]
     refine aa rfl (by simp only[Bool.or_eq_false_iff,beq_eq_false_iff_ne,decide_eq_false_iff_not];omega) ?_
     repeat' refine dx ?_
     refine bU (fun w1 hm=>hm.perm (Hb _ _ _ _ _)) ?_
     refine bL (σ:=Value) (fun _=>True) (fun r=>r) (fun _=>_) rfl (ag J J J J ⟨J,J,trivial⟩ rfl (by kernel_rfl)) (fun w1 hM=>(qQ gc v.x v.xc _ _ _ _ _ _ _ _ _ _ _ _ _ _ v.kv f.num w1 (by omega) hkz hM).mono fun e w' ⟨r,h1,h2,h3⟩=>⟨r,trivial,h2,h3⟩) J J ?_
     rintro rv -
     repeat' refine dx ?_
     (refine cu ae (fun _=>0) J J trivial rfl fun w1 hm=> ?_)
     have h0:Mem w0 w1 (CM gc (FK v.kv) ⟨oe {v.c with aw:=v.c.aw} f.num,v.x,v.xc,v.kv.map (jv f.num),v.o,v.oc,v.p,v.pc⟩ M):=by
      have h1:=(hm.mask [true,true,false,true,true,true] rfl).perm (List.perm_middle (l₁:=[_,_]))
      unfold CM
      dsimp only
      rw[List.length_map]
      have h2:=h1.perm (List.perm_middle (l₁:=[_,_,_,_]))
      refine(h2.repTo (fun w h x hx=> ?_) (fun w1 w2 hk h x hx=>(h x hx).agree hk)).perm (List.perm_middle (l₁:=[_,_,_,_])).symm
      obtain⟨u0,hu0,rfl⟩:=List.mem_map.1 hx
      exact tY (h u0 hu0)
     obtain⟨F3,h1,h2⟩:=sW h0 hFK
     refine⟨(_,_,F3),⟨rfl,?_,h2⟩,rfl,h1⟩
     show v.c.ks.map (gv f.num)=(v.kv.map (jv f.num)).map (·.k)
     rw[heq,List.map_map,List.map_map]
     exact List.map_congr_left fun u _=>(xk f.num u).symm
 rw[if_neg hk9]
 refine cz hM Tryz.func69 rfl Tryz.ntmps69 J J ?_
 repeat' (first|(refine bx ?_;intro g3)|refine nx ?_)
 refine aa rfl (by simpa using hk1) ?_
 repeat' refine nx ?_
 refine aa rfl (by simpa using hk2) ?_
 repeat' refine nx ?_
 refine aa rfl (by simpa using hk7) ?_
 repeat' refine nx ?_
 refine aa rfl (by simpa using hk8) ?_
 repeat' refine nx ?_
 refine aa rfl (by simpa using hk9) ?_
 repeat' refine dx ?_
 rw[show gf v.c f=gf v.c f from rfl]
 refine bL (σ:=Value×NV×(Nat→Prop)) (fun r=>r.2.1.c=gf v.c f∧r.2.1.c.ks=r.2.1.kv.map (·.k)∧ ∀b,r.2.2 b→w0.heap.size≤b) (fun r=>r.1) (fun r=>CM gc r.2.2 r.2.1 _) rfl (ag J J J J ⟨J,J,trivial⟩ rfl (by kernel_rfl)) (fun w1 hM=>(zW gc v f w1 hv hms heq hcap hcl hf ⟨by omega,by omega⟩ a6 hg (hM.perm (Cz _ _ _ _ _ _ _))).mono fun e w' ⟨r,h1,h2,h3⟩=>⟨r,h1,h2,h3⟩) J J ?_
 rintro⟨rv,v2,F2⟩ ⟨q1,q2,q3⟩
 dsimp only at q1 q2 q3 ⊢
 repeat' refine dx ?_
 (refine cu ae (fun _=>0) J J trivial rfl fun w1 hm=> ?_)
 obtain⟨F3,h1,h2⟩:=sW (hm.mask [true,true,true,true,true,false] rfl) q3
 exact⟨(_,v2,F3),⟨q1,q2,h2⟩,rfl,h1⟩
theorem GC(v:NV)(f:aS)(n:Int)(h:gy v.c f=n)(w:World)(hfd:f.data.size<4294967281)(hg:MLen w):Calls Tryz.prog 68 #[.agg ⟨NC v⟩,.agg #[.int .i64 f.kind,.int .i64 f.strm,.int .i64 f.num,.string f.data]] w fun e w'=>e= .returned (.int .i64 n)∧Below w.heap.size w w':=by
 subst h
 exact zS v f w hfd hg
theorem zZ{A:Nat→Prop}(v:NV)(f:aS)(w:World)(hN:NOk A w v)(hv:VN v.c)(hms:aX v.c≤400000000)(hfd:f.data.size<4294967281)(hg:MLen w):Calls Tryz.prog 24 #[.agg ⟨NC v⟩,.agg #[.int .i64 f.kind,.int .i64 f.strm,.int .i64 f.num,.string f.data]] w fun e w'=> ∃v':NV,v'.c=(ci v.c f).1∧e= .returned (.tuple #[.agg ⟨NC v'⟩,.int .i64 (ci v.c f).2])∧OutN A w w' v':=by
 refine ai Tryz.func24 rfl Tryz.ntmps24 J J ?_
 have hsz:=hv.toVB.szl (by omega)
 have hz:=hsz.n hN
 have hgd:=hsz.g hN
 refine aD ?_
 refine ap ?_
 (refine bx ?_;intro g2)
 (refine bx ?_;intro g3)
 repeat' (first|(refine al ?_;intro g4)|refine nx ?_)
 by_cases hcl:v.c.cl=true
 · have hp:ci v.c f=(v.c,20):=by unfold ci;rw[if_pos hcl]
   refine af rfl hcl ?_
   repeat' refine nx ?_
   (refine rt ?_;refine fun w1 hm=>⟨v,?_,?_,OutN.same hN hm.below⟩)
   · rw[hp]
   · rw[hp];rfl
 refine aa rfl (eq_false_of_ne_true hcl) ?_
 obtain⟨er,her⟩:∃x,gy v.c f=x:=⟨_,rfl⟩
 repeat' (first|refine cl (fun w hm=>GC v f er her w hfd (hg.below hm.below)) ?_|refine nx ?_)
 by_cases he:er=0
 rotate_left
 · have hp:ci v.c f=(iL v.c,er):=by unfold ci;rw[if_neg hcl,her,if_pos he]
   rw[hp]
   refine af rfl (by simpa using he) ?_
   repeat' refine nx ?_
   refine jJ (σ:=NV) (fun s F=>s.c=iL v.c∧ ∀b,F b→A b∨w.heap.size≤b) (fun s=> .agg ⟨NC s⟩) (fun s F w=>NOk F w s) rfl (ag J J J J ⟨J,trivial⟩ rfl (by kernel_rfl)) (fun w1 hm=>(qR v w1 (hN.lt.below hm.below) hz hgd).mono fun e w2 ⟨s,h1,h2,h3⟩=>by obtain⟨F,h4,h5⟩:=qB hm h3;exact⟨s,F,⟨h1,h4⟩,h2,h5⟩) J J ?_
   rintro⟨c1,x1,xc1,kv1,o1,oc1,p1,pc1⟩ F ⟨hc1,hF⟩
   dsimp only at hc1
   repeat' refine dx ?_
   (refine rt ?_;refine fun w1 hm=>⟨⟨c1,x1,xc1,kv1,o1,oc1,p1,pc1⟩,hc1,rfl,aL (hm.2.get (i:=0) rfl).2.1 hF hm.below⟩)
 · subst he
   have hp:ci v.c f=(ii v.c f,0):=by unfold ci;rw[if_neg hcl,her,if_neg (by simp)]
   rw[hp]
   refine aa J J ?_
   repeat' refine nx ?_
   refine cM (σ:=NV) (fun s=>s.c=v.c∧s.kv.map (·.k)=v.kv.map (·.k)) (fun s=> .agg ⟨NC s⟩) (fun s=>EN s) rfl (ag J J J J ⟨J,trivial⟩ rfl (by kernel_rfl)) (fun w1 hm=>dW v w1 (hN.below hm.below) hz) J J ?_
   rintro⟨c1,x1,xc1,kv1,o1,oc1,p1,pc1⟩ ⟨hc1,hkm⟩
   dsimp only at hc1 hkm
   subst hc1
   dsimp only[EN,NC,List.cons_append,List.nil_append]
   refine df (fun w1 hm=>Cs hm) (fun hcap=> ?_)
   refine bU (fun w1 hm=>hm.perm (uP [_,_,_] (kv1.flatMap EK) [_,_,_])) ?_
   dsimp only[List.cons_append,List.nil_append]
   repeat' (first|(refine al ?_;intro g7)|refine nx ?_)
   refine bU (fun w1 hm=>(hm.perm (uP [_,_,_,_] [_,_,_] (kv1.flatMap EK))).perm (Hb _ _ _ _ _)) ?_
   refine bL (σ:=Value×NV×(Nat→Prop)) (fun r=>r.2.1.c=ii v.c f∧r.2.1.c.ks=r.2.1.kv.map (·.k)∧ ∀b,r.2.2 b→w.heap.size≤b) (fun r=>r.1) (fun r=>Hc g7 r.2.2 r.2.1 _) rfl (ag J J J J ⟨J,J,trivial⟩ rfl (by kernel_rfl)) (fun w1 hM=>(zY g7 ⟨v.c,x1,xc1,kv1,o1,oc1,p1,pc1⟩ f w1 hv hms (by dsimp only;rw[hkm,hN.eq]) hcap (eq_false_of_ne_true hcl) her hfd hg hM).mono fun e w' ⟨r,h1,h2,h3⟩=>⟨r,h1,h2,h3⟩) J J ?_
   rintro⟨rv,v2,F2⟩ ⟨q1,q2,q3⟩
   dsimp only at q1 q2 q3 ⊢
   repeat' refine nx ?_
   (refine rt ?_;refine fun w1 hm=>⟨v2,q1,rfl,⟨⟨?_,?_,?_,q2,?_⟩,hm.below⟩⟩)
   · exact(Rws.own aO (hm.2.get (i:=1) rfl)).mono fun _=> .inr
   · exact(Rws.own dy (hm.2.get (i:=0) rfl)).mono fun _=> .inr
   · exact(hm.2.get (i:=3) rfl).2.1.1.mono fun b hb=> .inr (q3 b hb)
   · exact fun u hu=>((hm.2.get (i:=3) rfl).2.1.2 u hu).mono fun b hb=> .inr (q3 b hb)
end Go.Proofs.YthiocbcokfondaaGreatDoor.Y
