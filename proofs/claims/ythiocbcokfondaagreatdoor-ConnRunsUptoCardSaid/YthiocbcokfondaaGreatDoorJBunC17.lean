import Derived.Test.YthiocbcokfondaaGreatDoorJBunT
import Derived.Test.YthiocbcokfondaaGreatDoorJBunC9
import Derived.Test.YthiocbcokfondaaGreatDoorJBunX
import Derived.Test.YthiocbcokfondaaGreatDoorJBunQ
import Derived.Test.YthiocbcokfondaaGreatDoorJBunY
set_option maxRecDepth 100000
set_option maxHeartbeats 32000000
namespace Go.Proofs.YthiocbcokfondaaGreatDoor.Y
section
open Go.RowKit
def FK(l:List KV)(b:Nat):Prop:= ∃e∈l.flatMap EK,e.foot b
theorem eA{w:World}{B cap sz:Nat}{T:TypeId}{a:Option Addr}{xs:List Value}{α:Type}{f:α→List Value}{l:List α}(hf:∀x,(f x).length=sz)(h:w.ownsRow B T sz (.slice a l.length cap) l.length xs)(he:xs=l.flatMap f):Rws (fun b=>(Ent.own a cap T sz l.length xs).foot b) w sz f a l:=by
 subst he
 exact(Bs hf h).mono fun b ⟨ad,h1,h2⟩=>by subst h1;exact Ent.mut_foot (e:= .own (some ad) cap T sz l.length (l.flatMap f)) (by exact h2)
theorem qP{w0 w:World}{a b c:Ent}{l:List KV}{M:List Ent}(h:Mem w0 w (a::b::c::(l.flatMap EK++M))):∀k,FK l k→w0.heap.size≤k:=fun k ⟨e,he,hk⟩=>by
 have h1:MemL w0.heap.size w (l.flatMap EK):=(MemL.split (M1:=l.flatMap EK) h.2.2.2.2.2.2.2).1
 have hok:=MemL.mem h1 e he
 have hr:=wZ l e he
 cases e with
 |rep F p=>cases hr
 |obj g o=>exact(hok.mut_lt (k:=k) hk).1
 |own a cap e size n xs=>exact(hok.mut_lt (k:=k) hk).1
theorem EC{w:World}{B:Nat}{l:List KV}(h:MemL B w (l.flatMap EK)):∀u∈l,KOk (FK l) w u:=fun u hu=>by
 have h1:=nh h hu
 have hm:∀e∈EK u,e∈l.flatMap EK:=fun e he=>List.mem_flatMap.2 ⟨u,hu,he⟩
 refine⟨(eA fO h1.1 rfl).mono fun b hb=>⟨_,hm _ (List.mem_cons_self ..),hb⟩,(eA eX h1.2.2.2.2.1 rfl).mono fun b hb=>⟨_,hm _ (List.mem_cons_of_mem _ (List.mem_cons_of_mem _ (List.mem_cons_self ..))),hb⟩,(eA dy h1.2.2.1 rfl).mono fun b hb=>⟨_,hm _ (List.mem_cons_of_mem _ (List.mem_cons_self ..)),hb⟩⟩
theorem kx{w0 w:World}{a b c:Ent}{l:List KV}{M:List Ent}(h:Mem w0 w (a::b::c::(l.flatMap EK++M))):Mem w0 w (a::b::c:: .rep (FK l) (fun w=> ∀u∈l,KOk (FK l) w u)::M):=by
 have h1 : Mem w0 w (l.flatMap EK ++ ([a, b, c] ++ M)) := h.perm (by
  rw[show a::b::c::(l.flatMap EK++M)=[a,b,c]++(l.flatMap EK++M)from rfl,←List.append_assoc,←List.append_assoc]
  exact List.Perm.append_right _ List.perm_append_comm)
 have h2:=Mem.fuse (l.flatMap EK) (FK l) (fun w=> ∀u∈l,KOk (FK l) w u) h1 rfl (fun k hk=>hk) (fun hm=>EC hm) (fun w1 w2 hk hp u hu=>(hp u hu).agree hk)
 exact h2.perm (List.perm_middle (l₁:=[a,b,c]) (l₂:=M)).symm
theorem gH{A:Nat→Prop}{w w1:World}{v':NV}(hb:Below w.heap.size w w1)(hks:w1.ownsRow w.heap.size 39 22 (.slice v'.x v'.kv.length v'.xc) v'.kv.length (v'.kv.flatMap KC))(hou:w1.ownsRow w.heap.size 65 4 (.slice v'.o v'.c.ou.length v'.oc) v'.c.ou.length (v'.c.ou.flatMap fC))(hpg:w1.ownsRow w.heap.size 3 1 (.slice v'.p v'.c.pg.length v'.pc) v'.c.pg.length (v'.c.pg.flatMap iC))(heq:v'.c.ks=v'.kv.map (·.k))(hkk:∀u∈v'.kv,KOk (fun b=>w.heap.size≤b) w1 u):OutN A w w1 v':=
 ⟨⟨(Rws.own aO hks).mono fun _=> .inr,(Rws.own dy hou).mono fun _=> .inr,(Rws.own eJ hpg).mono fun _=> .inr,heq,fun u hu=>(hkk u hu).mono fun _=> .inr⟩,hb⟩
theorem tX{w:World}{B cap:Nat}{T:TypeId}{a:Option Addr}{l:List aS}{f:aS}{xs:List Value}(h:w.ownsRow B T 4 (.slice a (l.length+1) cap) (l.length+1) (l.flatMap fC++xs))(hx:xs=fC f):w.ownsRow B T 4 (.slice a (l++[f]).length cap) (l++[f]).length ((l++[f]).flatMap fC):=by
 rw[List.length_append,List.flatMap_append,List.flatMap_singleton,←hx]
 exact h
def jv(above:Int)(u:KV):KV:=if u.k.st.done=false∧above<u.k.st.id then gM {u with k:={u.k with st:=ml u.k.st 12 emptyB}}else u
theorem xk(above:Int)(u:KV):(jv above u).k=gv above u.k:=by
 unfold jv gv
 split
 · rw[pw]
 · rfl
theorem nC{A:Nat→Prop}{w:World}{u:KV}(h:KOk A w u):KOk A w (gM u):=by
 unfold gM
 split
 · exact⟨h.1,h.2.1,bV⟩
 · exact h
theorem tY{A:Nat→Prop}{w:World}{above:Int}{u:KV}(h:KOk A w u):KOk A w (jv above u):=by
 unfold jv
 split
 · exact nC ⟨h.1,h.2.1,h.2.2⟩
 · exact h
theorem Ht(s t:bZ)(h:ml s 12 emptyB=t)(w:World)(htx:s.text.size≤4611686018427387900):Calls Tryz.prog 127 #[.agg ⟨tC s⟩,.agg #[.int .i64 12,.string ⟨#[]⟩]] w fun e w'=>e= .returned (.agg ⟨tC t⟩)∧Below w.heap.size w w':=by
 subst h
 exact DG s.id s.side s.shape s.sent s.got s.se s.ge s.done s.code s.text s.snd.size s.snd.left s.snd.held s.rcv.size s.rcv.left s.rcv.held 12 ⟨#[]⟩ w htx (by decide)
theorem lF{u:KV}{i:Nat}{x:Value}(h:(tC u.k.st)[i]? =some x):(KC u)[i]? =some x:=by
 have hi:i<(tC u.k.st).length:=(List.getElem?_eq_some_iff.1 h).1
 have e:KC u=tC u.k.st++(KC u).drop 16:=rfl
 rw[e,List.getElem?_append_left hi]
 exact h
attribute [local irreducible] Calls
theorem zL{A:Nat→Prop}(v:NV)(n:Int)(w:World)(hN:NOk A w v)(hz:rk v)(hgd:vp v)(hg:MLen w):Calls Tryz.prog 52 #[.agg ⟨NC v⟩,.int .i64 n] w fun e w'=> ∃v':NV,v'.c=(eE v.c n).1∧e= .returned (.tuple #[.agg ⟨NC v'⟩,.int .i64 (eE v.c n).2])∧OutN A w w' v':=by
 refine ai Tryz.func52 rfl Tryz.ntmps52 J J ?_
 have hou:=hgd.ou
 have hez:emptyB.size<4294967281:=show(0:Nat)<4294967281 by decide
 repeat' (first|(refine bx ?_;intro g2)|(refine al ?_;intro g4)|refine nx ?_)
 by_cases hcl:v.c.cl=true
 · have hp:eE v.c n=(v.c,20):=by unfold eE;rw[if_pos hcl]
   refine af rfl hcl ?_
   repeat' refine nx ?_
   (refine rt ?_;refine fun w1 hm=>⟨v,?_,?_,OutN.same hN hm.below⟩)
   · rw[hp]
   · rw[hp];rfl
 · refine aa rfl (eq_false_of_ne_true hcl) ?_
   obtain⟨ef,hef⟩:∃x,aA (⟨7,0,n,emptyB⟩:aS)=x:=⟨_,rfl⟩
   repeat' (first|(refine al ?_;intro g6)|refine cl (fun w hm=>ya (⟨7,0,n,emptyB⟩:aS) ef hef w (hg.below hm.below) hez) ?_|refine nx ?_)
   by_cases he:ef=0
   rotate_left
   · have hp:eE v.c n=(v.c,ef):=by unfold eE;rw[if_neg hcl,hef,if_pos he]
     refine af rfl (by simpa using he) ?_
     repeat' refine nx ?_
     (refine rt ?_;refine fun w1 hm=>⟨v,?_,?_,OutN.same hN hm.below⟩)
     · rw[hp]
     · rw[hp];rfl
   have hp:eE v.c n=({v.c with ou:=v.c.ou++[(⟨7,0,n,emptyB⟩:aS)]},0):=by unfold eE;rw[if_neg hcl,hef,if_neg (by simpa using he)]
   rw[hp]
   refine aa rfl (by simpa using he) ?_
   repeat' refine nx ?_
   refine cM (σ:=NV) (fun s=>s.c=v.c∧s.kv.map (·.k)=v.kv.map (·.k)) (fun s=> .agg ⟨NC s⟩) (fun s=>EN s) rfl (ag J J J J ⟨J,trivial⟩ rfl (by kernel_rfl)) (fun w1 hm=>dW v w1 (hN.below hm.below) hz) J J ?_
   rintro⟨c1,x1,xc1,kv1,o1,oc1,p1,pc1⟩ ⟨hc1,hkm⟩
   dsimp only at hc1 hkm
   subst hc1
   dsimp only[EN,NC,List.cons_append,List.nil_append]
   refine df (fun w1 hm=>qP hm) (fun hFK=> ?_)
   refine bU (fun w1 hm=>kx hm) ?_
   have hlk:kv1.length=v.kv.length:=gN hkm
   repeat' (first|(refine al ?_;intro g8)|(refine cc ae J J J ⟨J,trivial⟩ J J J J J J J J ?_;intro g)|(refine bB ae 3 0 J J J J J J J J J (fun _ _=>rfl) fP J J (by unfold maxLen;omega) (by omega) J J ?_;intro sa sc)|refine nx ?_)
   (refine rt ?_;refine fun w1 hm=>⟨⟨{v.c with ou:=v.c.ou++[(⟨7,0,n,emptyB⟩:aS)]},x1,xc1,kv1,sa,sc,p1,pc1⟩,rfl,?_,?_⟩)
   · simp only[List.length_append,List.length_singleton]
   · exact gH hm.below (hm.2.get (i:=4) rfl) (tX (f:=(⟨7,0,n,emptyB⟩:aS)) (hm.2.get (i:=3) rfl) rfl) (hm.2.get (i:=2) rfl) (by rw[hkm,hN.eq]) (fun u hu=>((hm.2.get (i:=5) rfl).2.1 u hu).mono hFK)
theorem zM{A:Nat→Prop}(v:NV)(w:World)(hN:NOk A w v)(hz:rk v)(hgd:vp v)(hla:v.c.la≤4611686018427387904∧ -1≤v.c.la):Calls Tryz.prog 53 #[.agg ⟨NC v⟩] w fun e w'=> ∃v':NV,v'.c=iK v.c∧e= .returned (.agg ⟨NC v'⟩)∧OutN A w w' v':=by
 refine ai Tryz.func53 rfl Tryz.ntmps53 J J ?_
 have hou:=hgd.ou
 repeat' (first|(refine bx ?_;intro g1)|(refine al ?_;intro g2)|refine nx ?_)
 refine cM (σ:=NV) (fun s=>s.c=v.c∧s.kv.map (·.k)=v.kv.map (·.k)) (fun s=> .agg ⟨NC s⟩) (fun s=>EN s) rfl (ag J J J J ⟨J,trivial⟩ rfl (by kernel_rfl)) (fun w1 hm=>dW v w1 (hN.below hm.below) hz) J J ?_
 rintro⟨c1,x1,xc1,kv1,o1,oc1,p1,pc1⟩ ⟨hc1,hkm⟩
 dsimp only at hc1 hkm
 subst hc1
 dsimp only[EN,NC,List.cons_append,List.nil_append]
 refine df (fun w1 hm=>qP hm) (fun hFK=> ?_)
 refine bU (fun w1 hm=>kx hm) ?_
 have hlk:kv1.length=v.kv.length:=gN hkm
 repeat' (first|(refine al ?_;intro g3)|refine nx ?_)
 by_cases hc:v.c.sd=2∧v.c.cl=false∧v.c.aw=0
 · have ha:iK v.c={v.c with ou:=v.c.ou++[(⟨9,0,v.c.la,emptyB⟩:aS)],aw:=v.c.la+1}:=by unfold iK;rw[if_pos hc]
   rw[ha]
   obtain⟨hc1,hc2,hc3⟩:=hc
   refine af rfl (by rw[hc1,hc2,hc3];rfl) ?_
   repeat' (first|refine vx rfl (bm J J J J J (by omega)) ?_|(refine cc ae J J J ⟨J,trivial⟩ J J J J J J J J ?_;intro g)|(refine bB ae 3 0 J J J J J J J J J (fun _ _=>rfl) fP J J (by unfold maxLen;omega) (by omega) J J ?_;intro sa sc)|refine nx ?_)
   (refine rt ?_;refine fun w1 hm=>⟨⟨{v.c with ou:=v.c.ou++[(⟨9,0,v.c.la,emptyB⟩:aS)],aw:=v.c.la+1},x1,xc1,kv1,sa,sc,p1,pc1⟩,rfl,?_,?_⟩)
   · simp only[List.length_append,List.length_singleton]
   · exact gH hm.below (hm.2.get (i:=4) rfl) (tX (f:=(⟨9,0,v.c.la,emptyB⟩:aS)) (hm.2.get (i:=3) rfl) rfl) (hm.2.get (i:=2) rfl) (by rw[hkm,hN.eq]) (fun u hu=>((hm.2.get (i:=5) rfl).2.1 u hu).mono hFK)
 · have ha:iK v.c=v.c:=by unfold iK;rw[if_neg hc]
   rw[ha]
   refine aa rfl (by
    cases h1:(v.c.sd==2)with
    |false=>rfl
    |true=>
     cases h2:v.c.cl with
     |true=>rfl
     |false=>
      cases h3:(v.c.aw==0)with
      |false=>rfl
      |true=>exact absurd ⟨by simpa using h1,h2,by simpa using h3⟩ hc) ?_
   repeat' refine nx ?_
   (refine rt ?_;refine fun w1 hm=>⟨⟨v.c,x1,xc1,kv1,o1,oc1,p1,pc1⟩,rfl,rfl,?_⟩)
   exact gH hm.below (hm.2.get (i:=3) rfl) (hm.2.get (i:=2) rfl) (hm.2.get (i:=1) rfl) (by rw[hkm,hN.eq]) (fun u hu=>((hm.2.get (i:=4) rfl).2.1 u hu).mono hFK)
theorem qQ{w0:World}{M:List Ent}(gc:Nat)(xa:Option Addr)(xc:Nat)(a0 a1 a2 a3 a4 a5 a6 a7 a8 a9 a10 b0 b1 b2:Value)(kv:List KV)(above:Int)(w:World)(hzk:kv.length≤606626243774)(htx:∀u∈kv,u.k.st.text.size≤4611686018427387900)(hM:Mem w0 w (.own xa xc 39 22 kv.length (kv.flatMap KC):: .cl gc 28 [a0,a1,a2,a3,a4,a5,a6,a7,a8,a9,a10,.slice xa kv.length xc,b0,b1,b2]::M)):Calls Tryz.prog 67 #[.pointer (some ⟨gc,0,none⟩),.int .i64 above] w fun e w'=> ∃r:Value,True∧e= .returned r∧Mem w0 w' (.own xa xc 39 22 kv.length ((kv.map (jv above)).flatMap KC):: .cl gc 28 [a0,a1,a2,a3,a4,a5,a6,a7,a8,a9,a10,.slice xa kv.length xc,b0,b1,b2]::M):=by
 refine cz hM Tryz.func67 rfl Tryz.ntmps67 J J ?_
 repeat' refine nx ?_
 refine bT (σ:=Nat×List KV) (fun p=>p.1≤kv.length∧p.2.length=p.1∧p.2=(kv.take p.1).map (jv above)) (fun p=>[(11,[],.int .i64 ((p.1:Nat):Int)),(10,[],.int .i64 ((kv.length:Nat):Int)),(0,[],.pointer (some ⟨gc,0,none⟩)),(1,[],.int .i64 above)]) (fun p=> .own xa xc 39 22 kv.length ((p.2++kv.drop p.1).flatMap KC):: .cl gc 28 [a0,a1,a2,a3,a4,a5,a6,a7,a8,a9,a10,.slice xa kv.length xc,b0,b1,b2]::M) (fun p=>kv.length-p.1) (0,[]) [true,true] ⟨Nat.zero_le _,rfl,rfl⟩ ⟨J,J,J,J,trivial⟩ rfl ?_
 rintro⟨j,d⟩ ⟨hj0,hd,hmap⟩
 dsimp only at hj0 hd hmap ⊢
 by_cases hj:j<kv.length
 · obtain⟨u,hu0⟩:∃u,kv[j]? =some u:=⟨kv[j],List.getElem?_eq_getElem hj⟩
   have hu:=List.mem_of_getElem? hu0
   have hat:=Bo hd hu0
   have htx0:=htx u hu
   have hn0:0<kv.length:=Nat.lt_of_le_of_lt (Nat.zero_le _) hj
   refine aD ?_
   refine ap ?_
   refine jt 0 rfl hn0 ?_
   rintro gx rfl
   repeat' refine nx ?_
   refine af rfl (show decide (((j:Nat):Int)<((kv.length:Nat):Int))=true from decide_eq_true (by omega)) ?_
   repeat' (first|refine vx rfl (ia (m:=22) j hj) ?_|refine nx ?_)
   refine vx rfl (cw ae 0 (v:= .bool u.k.st.done) J J J J J J (fun _=>by rw[Nat.zero_add];exact bc aO hat (k:=7) rfl)) ?_
   repeat' refine dx ?_
   refine vx rfl (cw ae 0 (v:= .int .i64 u.k.st.id) J J J J J J (fun _=>by rw[Nat.zero_add];exact bc aO hat (k:=0) rfl)) ?_
   repeat' refine dx ?_
   by_cases hc:u.k.st.done=false∧above<u.k.st.id
   · obtain⟨t,ht⟩:∃t,ml u.k.st 12 emptyB=t:=⟨_,rfl⟩
     have hev:jv above u=gM {u with k:={u.k with st:=t}}:=by unfold jv;rw[if_pos hc,ht]
     refine af rfl (by rw[hc.1];simp;exact hc.2) ?_
     repeat' (first|refine vx rfl (gD ae 0 (cs:=tC u.k.st) J J J J J J (fun _ i x hx=>by rw[Nat.zero_add,Nat.add_zero];exact bc aO hat (lF hx))) ?_|refine cl (fun w hm=>Ht u.k.st t ht w htx0) ?_|refine nx ?_)
     refine cR ae 0 J J J J J J J J J (show jw _ (0+j * 22+0) _=_ from by rw[Nat.zero_add];exact cL aO (d++kv.drop j) j 0 (u) ({u with k:={u.k with st:=t}}) _ hat rfl) J J ?_
     repeat' refine dx ?_
     have hat1:((d++kv.drop j).set j {u with k:={u.k with st:=t}})[j]? =some {u with k:={u.k with st:=t}}:=dG hat _
     refine bL (σ:=Value) (fun _=>True) (fun r=>r) (fun _=>_) rfl (ag J J J J ⟨J,trivial⟩ rfl (by kernel_rfl)) (fun w hM=>(jQ gx xc kv.length j ((d++kv.drop j).set j {u with k:={u.k with st:=t}}) {u with k:={u.k with st:=t}} hat1 w hM).mono fun e w' ⟨r,h1,h2,h3⟩=>⟨r,trivial,h2,h3⟩) J J ?_
     rintro rv -
     rw[List.set_set,←hev,xP hd hu0]
     repeat' (first|refine vx rfl (bm J J J J J (by omega)) ?_|refine dx ?_)
     exact aY (j+1,d++[jv above u]) [] ⟨hj,by simp[hd],by rw[List.take_add_one,hu0];simp[hmap]⟩ (show kv.length - (j+1)<kv.length-j by omega) ⟨J,J,J,J,trivial⟩ rfl
   · have hev:jv above u=u:=by unfold jv;rw[if_neg hc]
     refine aa rfl (by
      cases h1:u.k.st.done with
      |true=>rfl
      |false=>simp;exact Int.not_lt.1 (fun h=>hc ⟨h1,h⟩)) ?_
     repeat' (first|refine vx rfl (bm J J J J J (by omega)) ?_|refine dx ?_)
     refine gE (M':= .own (some ⟨gx,0,none⟩) xc 39 22 kv.length ((((j+1,d++[jv above u]):Nat×List KV).2++kv.drop ((j+1,d++[jv above u]):Nat×List KV).1).flatMap KC):: .cl gc 28 [a0,a1,a2,a3,a4,a5,a6,a7,a8,a9,a10,.slice (some ⟨gx,0,none⟩) kv.length xc,b0,b1,b2]::M) (fun w hM=> ?_) ?_
     · have e:d++[jv above u]++kv.drop (j+1)=d++kv.drop j:=by rw[hev,List.append_assoc,eQ hu0];rfl
       dsimp only
       rw[e]
       exact hM
     · exact aY (j+1,d++[jv above u]) [] ⟨hj,by simp[hd],by rw[List.take_add_one,hu0];simp[hmap]⟩ (show kv.length - (j+1)<kv.length-j by omega) ⟨J,J,J,J,trivial⟩ rfl
 · have hjl:j=kv.length:=by omega
   subst hjl
   repeat' refine nx ?_
   refine aa rfl (by simp) ?_
   repeat' refine dx ?_
   (refine cu ae (fun _=>0) J J trivial rfl fun w1 hm=> ?_)
   refine⟨_,trivial,rfl,?_⟩
   rw[hmap,List.take_length,List.drop_length,List.append_nil]at hm
   exact hm
theorem qR{A:Nat→Prop}(v:NV)(w:World)(hN:NOk A w v)(hz:rk v)(hgd:vp v):Calls Tryz.prog 23 #[.agg ⟨NC v⟩] w fun e w'=> ∃v':NV,v'.c=iL v.c∧e= .returned (.agg ⟨NC v'⟩)∧OutN A w w' v':=by
 refine ai Tryz.func23 rfl Tryz.ntmps23 J J ?_
 have hzk:=hz.ks
 repeat' (first|(refine bx ?_;intro g1)|(refine al ?_;intro g2)|refine nx ?_)
 refine cM (σ:=NV) (fun s=>s.c=v.c∧s.kv.map (·.k)=v.kv.map (·.k)) (fun s=> .agg ⟨NC s⟩) (fun s=>EN s) rfl (ag J J J J ⟨J,trivial⟩ rfl (by kernel_rfl)) (fun w1 hm=>dW v w1 (hN.below hm.below) hz) J J ?_
 rintro⟨c1,x1,xc1,kv1,o1,oc1,p1,pc1⟩ ⟨hc1,hkm⟩
 dsimp only at hc1 hkm
 subst hc1
 dsimp only[EN,NC,List.cons_append,List.nil_append]
 refine df (fun w1 hm=>qP hm) (fun hFK=> ?_)
 refine bU (fun w1 hm=>kx hm) ?_
 have hlk:kv1.length=v.kv.length:=gN hkm
 have htx:∀u∈kv1,u.k.st.text.size≤4611686018427387900:=fun u hu=>by
  have h1:u.k∈v.kv.map (·.k):=by rw[←hkm];exact List.mem_map_of_mem hu
  obtain⟨u0,hu0,e0⟩:=List.mem_map.1 h1
  rw[←e0]
  exact hgd.tx u0 hu0
 repeat' (first|(refine al ?_;intro g3)|refine nx ?_)
 refine bU (fun w1 hm=>hm.perm (List.perm_middle (l₁:=[_,_,_]))) ?_
 dsimp only[List.cons_append,List.nil_append]
 refine bL (σ:=Value) (fun _=>True) (fun r=>r) (fun _=>_) rfl (ag J J J J ⟨J,J,trivial⟩ rfl (by kernel_rfl)) (fun w1 hM=>(qQ g3 x1 xc1 _ _ _ _ _ _ _ _ _ _ _ _ _ _ kv1 0 w1 (by omega) htx hM).mono fun e w' ⟨r,h1,h2,h3⟩=>⟨r,trivial,h2,h3⟩) J J ?_
 rintro rv -
 repeat' refine nx ?_
 (refine rt ?_;refine fun w1 hm=>⟨⟨iL v.c,x1,xc1,kv1.map (jv 0),none,0,p1,pc1⟩,rfl,?_,?_⟩)
 · simp only[List.length_map];rfl
 · refine gH hm.below (by rw[List.length_map];exact hm.2.get (i:=0) rfl) (World.ownsRow_nil _ _ _ _) (hm.2.get (i:=2) rfl) ?_ (fun u hu=> ?_)
   · show v.c.ks.map (gv 0)=(kv1.map (jv 0)).map (·.k)
     rw[hN.eq,←hkm,List.map_map,List.map_map]
     exact List.map_congr_left fun u _=>(xk 0 u).symm
   · obtain⟨u0,hu0,rfl⟩:=List.mem_map.1 hu
     exact tY (((hm.2.get (i:=4) rfl).2.1 u0 hu0).mono hFK)
end
section
open Go.RowKit
section
variable {P:Program}{T:eV}{l0 rest:List Oper}{Z:Act→World→Prop}{Q:Exit→Act→World→Prop}{n:Nat}{w0:World}{S:co}{M M' M2:List Ent}{p:World→Prop}{L:Cd}{o:Oper}{d:Nat}
theorem nD{f:FuncId}{args:List Value}{v:Value}(hg:o.guard=none)(ho:dS P S [] o f args)(hk:(qp o.op).pure=false)(hk2:(qp o.op).read=false)(hc:∀w,Mem w0 w M→Calls P f ⟨args⟩ w fun e w'=>e= .returned v∧Below w.heap.size w w')
 (hM':∀w,Mem w0 w M→Mem w0 w M'∧p w) (hd:o.dst=some d) (hn:Nat.blt d n=true) (h:SY P l0 Z rest n w0 M' p ((d,[],v)::S) M):SY P l0 Z (o::rest) n w0 M' p S M:=by
 have hdn:d<n:=Nat.le_of_ble_eq_true hn
 refine⟨fun a w hS hM=>bH (by unfold Region.wanted;rw[hg]) hk hk2 fun K hK=> ?_⟩
 refine Vals.wp (R:=fun v' w'=>v'=v∧Mem w0 w' M) rfl (ea (ho.ok n a w hS rfl) ((hc w hM).mono fun e w' ⟨h1,h2⟩=>⟨v,h1,rfl,hM.keep h2⟩)) (fun v' w' ⟨hv,hm⟩=>hK _ _ ⟨hM' _ hm,h.run _ _ ?_ hm⟩)
 subst hv
 rw[hd];exact hS.put hdn (by simp[aJ])
theorem gO{σ:Type}{f:FuncId}{args:List Value}(Φ:σ→Prop)(V:σ→Value)(N:σ→List Ent)(hg:o.guard=none)(ho:dS P S [] o f args)
 (hc:∀w,Mem w0 w M→Calls P f ⟨args⟩ w fun e w'=> ∃s,Φ s∧e= .returned (V s)∧Mem w0 w' (N s)) (hd:o.dst=some d) (hn:Nat.blt d n=true)
 (h:∀s,Φ s→SQ Q .normal n w0 ((d,[],V s)::S) (N s)):SY P l0 (hX P l0.toArray o (Q .normal)) [] n w0 M' p S M:=by
 have hdn:d<n:=Nat.le_of_ble_eq_true hn
 refine⟨fun a w hS hM=>dN (lx (by unfold Region.wanted;rw[hg]) fun K hK=> ?_)⟩
 refine Vals.wp (R:=fun v' w'=> ∃s,Φ s∧v'=V s∧Mem w0 w' (N s)) rfl (ea (ho.ok n a w hS rfl) ((hc w hM).mono fun e w' ⟨s,h1,h2,h3⟩=>⟨V s,h2,s,h1,rfl,h3⟩)) (fun v' w' ⟨s,h1,hv,hm⟩=>hK _ _ ((h s h1).run _ _ ?_ hm))
 subst hv
 rw[hd];exact hS.put hdn (by simp[aJ])
end
end
section
open Go.RowKit
def gg(cl:Bool)(x:bk)(u:Int):bk:=if cl=true∨dD x u≤0 then x else xO x (dD x u)
def fm(cl:Bool)(x:bk)(u id:Int)(l:List aS):List aS:=if cl=true∨dD x u≤0 then l else l++[⟨6,id,dD x u,emptyB⟩]
theorem iz(c:NL):gbC c={c with rw:=gg c.cl c.rw (ba c.ks),ou:=fm c.cl c.rw (ba c.ks) 0 c.ou}:=by
 unfold gbC gg fm
 split<;>rfl
theorem zN{cl:Bool}{x:bk}{u id:Int}{l:List aS}:(fm cl x u id l).length≤l.length+1:=by
 unfold fm
 split
 · exact Nat.le_succ _
 · rw[List.length_append,List.length_singleton];exact Nat.le_refl _
theorem Cn(x:bk)(u n:Int)(h:dD x u=n)(w:World)(hu:0≤u∧u≤4611686018427387904)(hh:0≤x.held∧x.held≤4611686018427387904):Calls Tryz.prog 163 #[.agg #[.int .i64 x.size,.int .i64 x.left,.int .i64 x.held],.int .i64 u] w fun e w'=>e= .returned (.int .i64 n)∧Below w.heap.size w w':=by
 subst h
 exact zm x u w hu hh
attribute [local irreducible] Calls
theorem jU{w0:World}{M:List Ent}(gc:Nat)(a0 a1 a2 a3 a4 a5 a6 a7 b0 b1:Value)(cl:Bool)(x:bk)(o:Option Addr)(oc:Nat)(ou:List aS)(id u:Int)(w:World)(hx:bi x=true)(hu0:0≤u)(hu1:u≤x.held)(hou:ou.length≤2000000000)(hM:Mem w0 w (.own o oc 65 4 ou.length ((ou).flatMap fC):: .cl gc 28 [a0,a1,a2,a3,a4,a5,a6,a7,.int .i64 x.size,.int .i64 x.left,.int .i64 x.held,b0,.slice o ou.length oc,b1,.bool cl]::M)):Calls Tryz.prog 102 #[.pointer (some ⟨gc,0,none⟩),.pointer (some ⟨gc,0+8,none⟩),.int .i64 id,.int .i64 u] w fun e w'=> ∃s:Value×Option Addr×Nat,True∧e= .returned s.1∧Mem w0 w' (.own s.2.1 s.2.2 65 4 (fm cl x u id ou).length (((fm cl x u id ou)).flatMap fC):: .cl gc 28 [a0,a1,a2,a3,a4,a5,a6,a7,.int .i64 (gg cl x u).size,.int .i64 (gg cl x u).left,.int .i64 (gg cl x u).held,b0,.slice s.2.1 (fm cl x u id ou).length s.2.2,b1,.bool cl]::M):=by
 have hwo:=aW.1 hx
 obtain⟨hb0,hb1⟩:=jj hx hu0 hu1
 obtain⟨n,hn⟩:∃n,dD x u=n:=⟨_,rfl⟩
 unfold fm gg
 rw[hn]at hb0 hb1 ⊢
 refine cz hM Tryz.func102 rfl Tryz.ntmps102 J J ?_
 repeat' (first|refine aD ?_|refine ap ?_|refine ay ?_|refine aK ?_|((refine' bJ rfl ?_ J J ?_);rotate_left;first|exact ax ae J J J J|exact aM ae J J J J J J|exact cE J J J J J|exact ab ae 1 J J J J J)|refine aH rfl (ag J J J J ⟨J,J,trivial⟩ rfl (by kernel_rfl)) (fun w hm=>Cn x u n hn w ⟨hu0,by omega⟩ ⟨by omega,by omega⟩) J J ?_)
 by_cases hg:cl=true∨n≤0
 · rw[if_pos hg,if_pos hg]
   refine af rfl (by simpa using hg) ?_
   repeat' (first|refine bq ?_|refine aC ?_)
   (refine aI ae (fun _=>0) J J trivial rfl fun w1 hm=> ?_)
   exact⟨(_,o,oc),trivial,rfl,hm⟩
 · rw[if_neg hg,if_neg hg]
   refine aa rfl (by
    cases h:(cl||decide (n≤0))with
    |false=>rfl
    |true=>exact absurd (by simpa using h) hg) ?_
   repeat' (first|refine aD ?_|refine ap ?_|refine ay ?_|refine bo ?_|refine aK ?_|(refine cc ae J J J ⟨J,trivial⟩ J J J J J J J J ?_;intro g)|(refine bB ae 1 0 J J J J J J J J J (fun _ _=>rfl) fP J J (by unfold maxLen;omega) (by omega) J J ?_;intro sa sc)|((refine' bJ rfl ?_ J J ?_);rotate_left;first|exact bm J J J J J (by omega)|exact mg J J J J J (by omega)|exact ax ae J J J J|exact ab ae 1 J J J J J|exact aj ae J J ⟨J,J,J,trivial⟩ J J J)|refine av ae 1 J J J J J J J J J J J J ?_|refine av ae 2 J J J J J J J J J J J J ?_)
   (refine cu ae (fun _=>0) J J trivial rfl fun w1 hm=> ?_)
   refine⟨(_,sa,sc),trivial,rfl,?_⟩
   have h1:=hm.mask [false,true,true] rfl
   rw[List.length_append,List.flatMap_append,List.flatMap_singleton]
   exact h1
theorem DT{u:KV}{i:Nat}{x:Value}(h:[Value.int .i64 u.k.st.rcv.size,.int .i64 u.k.st.rcv.left,.int .i64 u.k.st.rcv.held][i]? =some x):(KC u)[13+i]? =some x:=by
 match i,h with
 |0,h=>exact h
 |1,h=>exact h
 |2,h=>exact h
theorem Co{w0:World}{M:List Ent}(gc gx xc nn k:Nat)(a0 a1 a2 a3 a4 a5 a6 a7 a8 a9 a10 b0 b1:Value)(cl:Bool)(kv:List KV)(u:KV)(hat:kv[k]? =some u)(o:Option Addr)(oc:Nat)(ou:List aS)(id r:Int)(w:World)(hx:bi u.k.st.rcv=true)(hu0:0≤r)(hu1:r≤u.k.st.rcv.held)(hou:ou.length≤2000000000)(hM:Mem w0 w (.own o oc 65 4 ou.length ((ou).flatMap fC):: .own (some ⟨gx,0,none⟩) xc 39 22 nn ((kv).flatMap KC):: .cl gc 28 [a0,a1,a2,a3,a4,a5,a6,a7,a8,a9,a10,b0,.slice o ou.length oc,b1,.bool cl]::M)):Calls Tryz.prog 102 #[.pointer (some ⟨gc,0,none⟩),.pointer (some ⟨gx,0+k * 22+13,none⟩),.int .i64 id,.int .i64 r] w fun e w'=> ∃s:Value×Option Addr×Nat,True∧e= .returned s.1∧Mem w0 w' (.own s.2.1 s.2.2 65 4 (fm cl u.k.st.rcv r id ou).length (((fm cl u.k.st.rcv r id ou)).flatMap fC):: .own (some ⟨gx,0,none⟩) xc 39 22 nn ((kv.set k {u with k:={u.k with st:={u.k.st with rcv:=gg cl u.k.st.rcv r}}}).flatMap KC):: .cl gc 28 [a0,a1,a2,a3,a4,a5,a6,a7,a8,a9,a10,b0,.slice s.2.1 (fm cl u.k.st.rcv r id ou).length s.2.2,b1,.bool cl]::M):=by
 have hwo:=aW.1 hx
 obtain⟨hb0,hb1⟩:=jj hx hu0 hu1
 obtain⟨n,hn⟩:∃n,dD u.k.st.rcv r=n:=⟨_,rfl⟩
 unfold fm gg
 rw[hn]at hb0 hb1 ⊢
 refine cz hM Tryz.func102 rfl Tryz.ntmps102 J J ?_
 repeat' (first|refine aD ?_|refine ap ?_|((refine' bJ rfl ?_ J J ?_);rotate_left;exact ax ae J J J J))
 ((refine' bJ rfl ?_ J J ?_);rotate_left;exact gD ae 1 (cs:=[.int .i64 u.k.st.rcv.size,.int .i64 u.k.st.rcv.left,.int .i64 u.k.st.rcv.held]) J J J J J J (fun _ i x hx=>by rw[Nat.zero_add,Nat.add_assoc];exact bc aO hat (DT hx)))
 repeat' (first|refine aD ?_|refine ap ?_|refine ay ?_|refine aK ?_|((refine' bJ rfl ?_ J J ?_);rotate_left;first|exact ax ae J J J J|exact aM ae J J J J J J|exact cE J J J J J|exact ab ae 2 J J J J J)|refine aH rfl (ag J J J J ⟨J,J,trivial⟩ rfl (by kernel_rfl)) (fun w hm=>Cn u.k.st.rcv r n hn w ⟨hu0,by omega⟩ ⟨by omega,by omega⟩) J J ?_)
 by_cases hg:cl=true∨n≤0
 · rw[if_pos hg,if_pos hg]
   refine af rfl (by simpa using hg) ?_
   repeat' (first|refine bq ?_|refine aC ?_)
   (refine aI ae (fun _=>0) J J trivial rfl fun w1 hm=> ?_)
   refine⟨(_,o,oc),trivial,rfl,?_⟩
   rw[show kv.set k u=kv by obtain⟨h1,h2⟩:=List.getElem?_eq_some_iff.1 hat;rw[←h2];exact List.set_getElem_self h1]
   exact hm
 · rw[if_neg hg,if_neg hg]
   refine aa rfl (by
    cases h:(cl||decide (n≤0))with
    |false=>rfl
    |true=>exact absurd (by simpa using h) hg) ?_
   repeat' (first|refine aD ?_|refine ap ?_|refine ay ?_|refine bo ?_|((refine' bJ rfl ?_ J J ?_);rotate_left;exact ax ae J J J J))
   ((refine' bJ rfl ?_ J J ?_);rotate_left;exact cw ae 1 (v:= .int .i64 u.k.st.rcv.left) J J J J J J (fun _=>by rw[Nat.zero_add];exact bc aO hat (k:=14) rfl))
   repeat' (((refine' bJ rfl ?_ J J ?_);rotate_left;first|exact bm J J J J J (by omega)|exact ax ae J J J J))
   refine cR ae 1 J J J J J J J J J (show jw _ (0+k * 22+14) _=_ from by rw[Nat.zero_add];exact cL aO (kv) k 14 (u) ({u with k:={u.k with st:={u.k.st with rcv:=⟨u.k.st.rcv.size,u.k.st.rcv.left+n,u.k.st.rcv.held⟩}}}) _ hat rfl) J J ?_
   repeat' (first|refine aD ?_|refine ap ?_|refine ay ?_|refine aK ?_|((refine' bJ rfl ?_ J J ?_);rotate_left;exact ax ae J J J J))
   have hat1:(kv.set k {u with k:={u.k with st:={u.k.st with rcv:=⟨u.k.st.rcv.size,u.k.st.rcv.left+n,u.k.st.rcv.held⟩}}})[k]? =some {u with k:={u.k with st:={u.k.st with rcv:=⟨u.k.st.rcv.size,u.k.st.rcv.left+n,u.k.st.rcv.held⟩}}}:=dG hat _
   ((refine' bJ rfl ?_ J J ?_);rotate_left;exact cw ae 1 (v:= .int .i64 u.k.st.rcv.held) J J J J J J (fun _=>by rw[Nat.zero_add];exact bc aO hat1 (k:=15) rfl))
   repeat' (((refine' bJ rfl ?_ J J ?_);rotate_left;first|exact mg J J J J J (by omega)|exact ax ae J J J J))
   refine cR ae 1 J J J J J J J J J (show jw _ (0+k * 22+15) _=_ from by rw[Nat.zero_add];exact cL aO (kv.set k {u with k:={u.k with st:={u.k.st with rcv:=⟨u.k.st.rcv.size,u.k.st.rcv.left+n,u.k.st.rcv.held⟩}}}) k 15 ({u with k:={u.k with st:={u.k.st with rcv:=⟨u.k.st.rcv.size,u.k.st.rcv.left+n,u.k.st.rcv.held⟩}}}) ({u with k:={u.k with st:={u.k.st with rcv:=xO u.k.st.rcv n}}}) _ hat1 rfl) J J ?_
   rw[List.set_set]
   repeat' (first|refine ap ?_|refine ay ?_|refine aK ?_|(refine cc ae J J J ⟨J,trivial⟩ J J J J J J J J ?_;intro g)|(refine bB ae 1 0 J J J J J J J J J (fun _ _=>rfl) fP J J (by unfold maxLen;omega) (by omega) J J ?_;intro sa sc)|((refine' bJ rfl ?_ J J ?_);rotate_left;first|exact ax ae J J J J|exact ab ae 2 J J J J J|exact aj ae J J ⟨J,J,J,trivial⟩ J J J)|refine av ae 3 J J J J J J J J J J J J ?_)
   (refine cu ae (fun _=>0) J J trivial rfl fun w1 hm=> ?_)
   refine⟨(_,sa,sc),trivial,rfl,?_⟩
   have h1:=hm.mask [false,true,true,true] rfl
   rw[List.length_append,List.flatMap_append,List.flatMap_singleton]
   exact h1
end
section
open Go.RowKit
theorem qS(c:Int)(t:ByteArray):(fc c t).size<4294967281:=by
 unfold fc
 split
 · rename_i h
   have h1:=qF h
   have h2:=(cq c.toNat).2
   show(A1 (bp c.toNat) t).size<_
   unfold A1
   rw[ByteArray.size_append]
   show(bp c.toNat).toArray.size+t.size<_
   rw[List.size_toArray]
   omega
 · decide
theorem vR{w w':World}{b o:Nat}{cs:List Value}(h:w.rangeAt b o cs)(hb:Below w.heap.size w w'):w'.rangeAt b o cs:=fun j v hv=>by
 have h1:=h j v hv
 exact(hb.cell (block_lt_of_cell h1)).trans h1
theorem DU{w0 w:World}{M:List Ent}{g:Nat}{T:TypeId}{cs:List Value}(i:Nat)(hM:Mem w0 w M)(h:ez M i=some (.cl g T cs)):w.rangeAt g 0 cs:=fun j v hv=>by
 have hb:Bk w g T ⟨cs⟩:=(hM.2.get (i:=i) h).2
 have:=hb.at_ j (by simpa using hv)
 rw[Nat.zero_add]
 exact this
theorem Hu{w:World}{M:List Ent}:∀w1,Mem w w1 M→ ∀b,b<w.heap.size→b<w1.heap.size∧ ∀f∈M,¬f.mut b:=fun _ hm _ hb=>⟨Nat.lt_of_lt_of_le hb hm.1.size,fun _ hf=>iv hm hb hf⟩
theorem Cp{F O:Nat→Prop}{w1 w2:World}{s:NV}(h:OutN F w1 w2 s)(hO:∀b,F b→O b):∃Fs:Nat→Prop,∃g:Nat→Prop,MemL w1.heap.size w2 [.rep Fs (fun w=>NOk Fs w s)]∧(∀f∈ [Ent.rep Fs (fun w=>NOk Fs w s)],∀b,f.mut b→g b)∧(∀f∈ [Ent.rep Fs (fun w=>NOk Fs w s)],∀b,f.foot b→g b∨O b)∧(∀b,g b→w1.heap.size≤b∧b<w2.heap.size)∧ ∀b,Fs b→F b∨w1.heap.size≤b:=by
 refine⟨fun b=>(F b∨w1.heap.size≤b)∧b<w2.heap.size,fun b=>w1.heap.size≤b∧b<w2.heap.size,⟨⟨fun _ h=>h.2,h.1.lt,fun w3 w4 hk h=>h.agree hk⟩,fun f hf=>(by cases hf),trivial⟩,fun f hf b hm=> ?_,fun f hf b hm=> ?_,fun _ h=>h,fun b hb=>hb.1⟩
 · obtain rfl:=List.mem_singleton.1 hf
   exact hm.elim
 · obtain rfl:=List.mem_singleton.1 hf
   have hm':(F b∨w1.heap.size≤b)∧b<w2.heap.size:=hm
   rcases hm'.1 with h|h
   · exact .inr (hO b h)
   · exact .inl ⟨h,hm'.2⟩
theorem Gy(c:Int)(s t:ByteArray)(h:fc c s=t)(w:World)(hs:s.size≤4611686018427387900):Calls Tryz.prog 104 #[.agg #[.int .i64 c,.string s]] w fun e w'=>e= .returned (.string t)∧Below w.heap.size w w':=by
 subst h
 exact A2 c s w hs
theorem Hv(c:Int)(s:ByteArray)(n:Int)(h:aP c s=n)(w:World)(hs:s.size≤4611686018427387900):Calls Tryz.prog 106 #[.agg #[.int .i64 c,.string s]] w fun e w'=>e= .returned (.int .i64 n)∧Below w.heap.size w w':=by
 subst h
 exact gp c s w hs
attribute [local irreducible] Calls
theorem zO  (w:World):Calls Tryz.prog 103 #[] w fun e w'=>e= .returned (.int .i64 0)∧Below w.heap.size w w':=by
 refine ai Tryz.func103 rfl Tryz.ntmps103 J J ?_
 repeat' refine nx ?_
 (refine rt ?_;refine fun w hm=>⟨?_,hm.below⟩)
 rfl
theorem zP(tc:Int)(tt:ByteArray)(ck:Int)(hck:aP tc tt=ck)(g5:Nat)(w:World)(hrow:w.rangeAt g5 0 [.int .i64 tc,.string tt])(htt:tt.size≤4611686018427387900):Calls Tryz.prog 105 #[.pointer (some ⟨g5,0,none⟩)] w fun e w'=>e= .returned (.int .i64 ck)∧Below w.heap.size w w':=by
 refine ai Tryz.func105 rfl Tryz.ntmps105 J J ?_
 repeat' (first|refine vx rfl (rj (cs:=[.int .i64 tc,.string tt]) hrow) ?_|refine cl (fun w hm=>Hv tc tt ck hck w htt) ?_|refine nx ?_)
 (refine rt ?_;refine fun w hm=>⟨?_,hm.below⟩)
 rfl
theorem Fm(ck:Int)(h:(0:Int)=ck)(w:World):Calls Tryz.prog 103 #[] w fun e w'=>e= .returned (.int .i64 ck)∧Below w.heap.size w w':=by
 subst h
 exact zO w
theorem xn{A:Nat→Prop}(v:NV)(f:aS)(ck:Int)(w:World)(hN:NOk A w v)(hz:rk v)(hgd:vp v)(hfd:f.data.size<4294967281)(hg:MLen w)(hck0:(0:Int)=ck):Calls Tryz.prog 95 #[.agg #[.int .i64 v.c.sd,.int .i64 v.c.nx,.int .i64 v.c.la,.int .i64 v.c.aw,.int .i64 v.c.sz,.int .i64 v.c.sw.size,.int .i64 v.c.sw.left,.int .i64 v.c.sw.held,.int .i64 v.c.rw.size,.int .i64 v.c.rw.left,.int .i64 v.c.rw.held,.slice v.x v.kv.length v.xc,.slice v.o v.c.ou.length v.oc,.slice v.p v.c.pg.length v.pc,.bool v.c.cl],.agg #[.int .i64 f.kind,.int .i64 f.strm,.int .i64 f.num,.string f.data],.func (.func 103) #[] #[]] w fun e w'=> ∃v':NV,v'.c=(bS v.c f ck).1∧e= .returned (.tuple #[.agg ⟨NC v'⟩,.int .i64 (bS v.c f ck).2])∧OutN A w w' v':=by
 refine ai Tryz.func95 rfl Tryz.ntmps95 J J ?_
 have hzk:=hz.ks
 obtain⟨o,ho⟩:∃o,bX f.strm v.c.ks 0=o:=⟨_,rfl⟩
 repeat' (first|(refine bx ?_;intro g3)|(refine al ?_;intro g6)|refine cl (fun w hm=>qx v f.strm o w (hN.below hm.below) (by omega) ho) ?_|refine nx ?_)
 cases o with
 |none=>
  have hwl:bS v.c f ck=(v.c,10):=by unfold bS fj;rw[ho];rfl
  refine af J J ?_
  repeat' refine nx ?_
  (refine rt ?_;refine fun w1 hm=>⟨v,?_,?_,OutN.same hN hm.below⟩)
  · rw[hwl]
  · rw[hwl];rfl
 |some i=>
  obtain⟨q,hq,_⟩:=dR ho
  obtain⟨u,hu,huk⟩:∃u,v.kv[i]? =some u∧u.k=q:=by rw[hN.eq,List.getElem?_map]at hq;simpa using hq
  have hat:=gB hN.eq hu
  have hum:=List.mem_of_getElem? hu
  have hi:i<v.kv.length:=(List.getElem?_eq_some_iff.1 hu).1
  obtain⟨bb,off,hx,_,_,hrows⟩:=hN.ks (by omega)
  have hrow:w.rangeAt bb (off+i * 22) (KC u):=hrows i u hu
  obtain⟨hk1,hk2,hk3⟩:=hN.ok u hum
  obtain⟨hs1,hs2,hs3⟩:=hz.ok u hum
  have htx:=hgd.tx u hum
  have hfr:=hgd.fr u hum
  obtain⟨r,hr⟩:∃r,cQ u.k.ob u.k.st=r:=⟨_,rfl⟩
  have hrt:r.st.text.size≤4611686018427387900:=by rw[←hr];exact ni _ _ htx hfr
  obtain⟨r2,hr2⟩:∃r2,aZ r.st f=r2:=⟨_,rfl⟩
  have hwe:fj v.c f ck=if ck≠0 then ck else if r.err≠0 then r.err else r2.err:=by unfold fj;rw[ho];dsimp only;rw[hat,hr,hr2]
  refine aa rfl (show decide (((i:Nat):Int)<0)=false from decide_eq_false (by omega)) ?_
  repeat' (first|refine cl (fun w hm=>Fm ck hck0 w) ?_|refine nx ?_)
  by_cases hck:ck=0
  rotate_left
  · have hwl:bS v.c f ck=(v.c,ck):=by unfold bS;rw[hwe,if_pos hck,if_pos hck]
    refine af rfl (by simpa using hck) ?_
    repeat' refine nx ?_
    (refine rt ?_;refine fun w1 hm=>⟨v,?_,?_,OutN.same hN hm.below⟩)
    · rw[hwl]
    · rw[hwl];rfl
  refine aa rfl (by simpa using hck) ?_
  rw[if_neg (by simpa using hck)]at hwe
  rw[hx]
  repeat' (first|refine vx rfl (ia (m:=22) i hi) ?_|refine vx rfl (rj (cs:=KC u) hrow) ?_|(refine al ?_;intro g10)|refine cl (fun w hm=>DM u r hr w (hk3.below hm.below) hs3 htx hfr (hg.below hm.below)) ?_|refine nx ?_)
  by_cases he1:r.err=0
  rotate_left
  · have hwl:bS v.c f ck=(v.c,r.err):=by unfold bS;rw[hwe,if_pos he1,if_pos he1]
    refine af rfl (by simpa using he1) ?_
    rw[←hx]
    repeat' refine nx ?_
    (refine rt ?_;refine fun w1 hm=>⟨v,?_,?_,OutN.same hN hm.below⟩)
    · rw[hwl]
    · rw[hwl];rfl
  refine aa rfl (by simpa using he1) ?_
  rw[if_neg (by simpa using he1)]at hwe
  repeat' (first|(refine al ?_;intro g12)|refine cl (fun w hm=>qv r.st f r2 hr2 w hrt hfd (hg.below hm.below)) ?_|refine nx ?_)
  by_cases he2:r2.err=0
  rotate_left
  · have hwl:bS v.c f ck=(v.c,r2.err):=by unfold bS;rw[hwe,if_pos he2]
    refine af rfl (by simpa using he2) ?_
    rw[←hx]
    repeat' refine nx ?_
    (refine rt ?_;refine fun w1 hm=>⟨v,?_,?_,OutN.same hN hm.below⟩)
    · rw[hwl]
    · rw[hwl];rfl
  refine aa rfl (by simpa using he2) ?_
  have hwl:bS v.c f ck=(eW (fi v.c i (fun k=>{k with ob:=k.ob++[f]})) i,0):=by unfold bS;rw[hwe,if_neg (by simpa using he2),ho];rfl
  rw[hwl]
  rw[←hx]
  repeat' refine nx ?_
  refine cM (σ:=NV) (fun s=>s.c=v.c∧s.kv.map (·.k)=v.kv.map (·.k)) (fun s=> .agg ⟨NC s⟩) (fun s=>EN s) rfl (ag J J J J ⟨J,trivial⟩ rfl (by kernel_rfl)) (fun w1 hm=>dW v w1 (hN.below hm.below) hz) J J ?_
  rintro⟨c1,x1,xc1,kv1,o1,oc1,p1,pc1⟩ ⟨hc1,hkm⟩
  dsimp only at hc1 hkm
  subst hc1
  dsimp only[EN,List.cons_append,List.nil_append]
  obtain⟨u1,hu1,hu1k⟩:=mr hkm hu
  have hi1:i<kv1.length:=(List.getElem?_eq_some_iff.1 hu1).1
  have hob:u1.k.ob.length≤1000000000:=by rw[hu1k];exact hgd.ob u hum
  have hou:=hgd.ou
  refine bU (fun w h=>h.perm (uP [_,_,_] (kv1.flatMap EK) [_,_,_,_,_])) ?_
  refine bU (fun w h=>h.perm (qz ([_,_,_]++[_,_,_,_,_]) hu1)) ?_
  dsimp only[EK,List.cons_append,List.nil_append]
  refine jt 5 rfl (by omega) ?_
  rintro gx rfl
  repeat' (first|refine vx rfl (ia (m:=22) i hi1) ?_|(refine al ?_;intro g14)|refine nx ?_)
  refine dk 7 ak rfl (by kernel_rfl) ?_
  iterate 6 (((refine' cB rfl ?_ J J J ?_);rotate_left;first|exact cw ae 6 (v:= .slice u1.o u1.k.ob.length u1.oc) J J J J J J (fun _=>by rw[Nat.zero_add];exact bc aO hu1 (k:=21) rfl)|exact ax ae J J J J|exact ab ae 10 J J J J J))
  refine dT ae J J J ⟨J,trivial⟩ J J J J J J J J ?_
  refine bO ?_
  intro s1
  refine bB ae 3 0 J J J J J J J J J (fun _ _=>rfl) fP J J (by unfold maxLen;omega) (by omega) J J ?_
  intro sa sc
  repeat' refine dx ?_
  refine cR ae 7 J J J J J J J J J (show jw _ (0+i * 22+21) _=_ from by rw[Nat.zero_add];exact cL aO (kv1) i 21 (u1) ({u1 with k:={u1.k with ob:=u1.k.ob++[f]},o:=sa,oc:=sc}) _ hu1 (by rw[show u1.k.ob.length+1=(u1.k.ob++[f]).length by simp];rfl)) J J ?_
  repeat' refine nx ?_
  have htx2:({u1 with k:={u1.k with ob:=u1.k.ob++[f]},o:=sa,oc:=sc}:KV).k.st.text.size≤4611686018427387900:=by show u1.k.st.text.size≤_;rw[hu1k];exact htx
  have hfr2:∀x∈({u1 with k:={u1.k with ob:=u1.k.ob++[f]},o:=sa,oc:=sc}:KV).k.ob,x.data.size<4294967281:=fun x hx=>by
   rcases List.mem_append.1 hx with hx|hx
   · exact hfr x (by rw[←hu1k];exact hx)
   · obtain rfl:=List.mem_singleton.1 hx
     exact hfd
  have hk2:(kv1.set i {u1 with k:={u1.k with ob:=u1.k.ob++[f]},o:=sa,oc:=sc})[i]? =some {u1 with k:={u1.k with ob:=u1.k.ob++[f]},o:=sa,oc:=sc}:=dG hu1 _
  refine df (p:=u1.k.ob.length+1≤sc∧ ∀ad,sa=some ad→w.heap.size≤ad.block) (fun w h=>⟨fo (h.2.get (i:=3) rfl),fun ad had=>(Ent.ok.mut_lt (h.2.get (i:=3) rfl) (k:=ad.block) (by subst had;rfl)).1⟩) (fun hcp2=> ?_)
  obtain⟨hcap2,hnew⟩:=hcp2
  refine bU (fun w h=>(((Mem.toRep1 (u1.k.ob++[f]) dy (by simp) (by simp[fC]) ((h.mask [false,true,true,true,true,true,true,true,false,false,true,false,false] rfl).perm (List.perm_middle (l₁:=[_,_])))).perm (List.perm_middle (l₁:=[_]))).perm (List.perm_middle (l₁:=[_,_,_,_,_,_]))).perm (List.perm_middle (l₁:=[_,_,_,_,_,_]))) ?_
  dsimp only[List.cons_append,List.nil_append]
  refine bL (σ:=Value×lB) (fun s=>Eu v.c {u1 with k:={u1.k with ob:=u1.k.ob++[f]},o:=sa,oc:=sc} s.2∧js (u1.k.ob++[f]) u1.k.st v.c.sw v.c.ou=⟨s.2.st,s.2.w,s.2.r,s.2.ou⟩) (fun s=>s.1) (fun s=>_) rfl (ag J J J J ⟨J,J,trivial⟩ rfl (by kernel_rfl)) (fun w1 hM=>(kZ _ gx xc1 o1 oc1 p1 pc1 v.c (kv1.set i {u1 with k:={u1.k with ob:=u1.k.ob++[f]},o:=sa,oc:=sc}) kv1.length i {u1 with k:={u1.k with ob:=u1.k.ob++[f]},o:=sa,oc:=sc} hk2 _ w1 htx2 hfr2 (by show(u1.k.ob++[f]).length≤sc;simp;exact hcap2) (by show v.c.ou.length+(u1.k.ob++[f]).length≤_;simp;omega) (hM.2.get (i:=3) rfl).2.1 hg hM).mono fun e w' ⟨s,h1,h2,h3⟩=>⟨s,h1,h2,h3⟩) J J ?_
  rintro⟨rv,s⟩ ⟨hI,hsol⟩
  dsimp only at hI hsol ⊢
  have hC:eW (fi v.c i (fun k=>{k with ob:=k.ob++[f]})) i={v.c with sw:=s.w,ks:=v.c.ks.set i (uS {u1 with k:={u1.k with ob:=u1.k.ob++[f]},o:=sa,oc:=sc} s).k,ou:=s.ou}:=by
   have h9:=tR (c:=v.c) (i:=i) (g:=fun k=>{k with ob:=k.ob++[f]}) (k:=({u1 with k:={u1.k with ob:=u1.k.ob++[f]},o:=sa,oc:=sc}:KV).k) (by rw[hN.lenk];exact hi) (by rw[hat,←hu1k]) hsol
   exact h9
  rw[hC]
  repeat' refine nx ?_
  (refine rt ?_;refine fun w1 hm=>⟨⟨{v.c with sw:=s.w,ks:=v.c.ks.set i (uS {u1 with k:={u1.k with ob:=u1.k.ob++[f]},o:=sa,oc:=sc} s).k,ou:=s.ou},some ⟨gx,0,none⟩,xc1,(kv1.set i {u1 with k:={u1.k with ob:=u1.k.ob++[f]},o:=sa,oc:=sc}).set i (uS {u1 with k:={u1.k with ob:=u1.k.ob++[f]},o:=sa,oc:=sc} s),s.o,s.oc,p1,pc1⟩,rfl,?_,⟨?_,hm.below⟩⟩)
  · unfold NC
    simp only[List.length_set]
  · have hg1:=hm.2.get (i:=1) rfl
    rw[show kv1.length=((kv1.set i {u1 with k:={u1.k with ob:=u1.k.ob++[f]},o:=sa,oc:=sc}).set i (uS {u1 with k:={u1.k with ob:=u1.k.ob++[f]},o:=sa,oc:=sc} s)).length by simp]at hg1
    have hR:MemL w.heap.size w1 ((kv1.eraseIdx i).flatMap EK):=(hm.mask [false,false,false,false,false,false,false,false] rfl).2
    have hrep:=(hm.2.get (i:=3) rfl).2.1
    refine⟨(Rws.own aO hg1).mono fun _=> .inr,(Rws.own dy (hm.2.get (i:=0) rfl)).mono fun _=> .inr,(Rws.own eJ (hm.2.get (i:=6) rfl)).mono fun _=> .inr,?_,fun x hx=> ?_⟩
    · rw[List.set_set,List.map_set,hkm,hN.eq]
    · rw[List.set_set]at hx
      rcases fR hi1 hx with rfl|hx
      · refine⟨(Rws.own fO (hm.2.get (i:=4) rfl)).mono fun _=> .inr,(Rws.own eX (hm.2.get (i:=5) rfl)).mono fun _=> .inr,fun h0=> ?_⟩
        obtain⟨b,off1,j,e1,e2,e3⟩:=hI.at_ h0
        obtain⟨b',off',e4,_,e6,e7⟩:=hrep (by simp)
        have e1':sa=some ⟨b,off1,none⟩:=e1
        rw[e1']at e4
        obtain⟨rfl,rfl⟩:=(by simpa using e4:b=b'∧off1=off')
        refine⟨b,off1+j * 4,e2,.inr (hnew _ e1'),e6,fun n y hy=> ?_⟩
        have hy':(({u1 with k:={u1.k with ob:=u1.k.ob++[f]},o:=sa,oc:=sc}:KV).k.ob.drop j)[n]? =some y:=by rw[←e3];exact hy
        rw[List.getElem?_drop]at hy'
        have h8:=e7 (j+n) y hy'
        rw[show off1+j * 4+n * 4=off1+(j+n) * 4 by omega]
        exact h8
      · exact(KOk.own (nh hR hx)).mono fun _=> .inr
theorem xp{A:Nat→Prop}(v:NV)(f:aS)(ck:Int)(tc:Int)(tt:ByteArray)(gm:Nat)(w:World)(hN:NOk A w v)(hz:rk v)(hgd:vp v)(hfd:f.data.size<4294967281)(hg:MLen w)(h5:w.rangeAt gm 0 [.int .i64 tc,.string tt])(htt:tt.size≤4611686018427387900)(hck0:aP tc tt=ck):Calls Tryz.prog 95 #[.agg #[.int .i64 v.c.sd,.int .i64 v.c.nx,.int .i64 v.c.la,.int .i64 v.c.aw,.int .i64 v.c.sz,.int .i64 v.c.sw.size,.int .i64 v.c.sw.left,.int .i64 v.c.sw.held,.int .i64 v.c.rw.size,.int .i64 v.c.rw.left,.int .i64 v.c.rw.held,.slice v.x v.kv.length v.xc,.slice v.o v.c.ou.length v.oc,.slice v.p v.c.pg.length v.pc,.bool v.c.cl],.agg #[.int .i64 f.kind,.int .i64 f.strm,.int .i64 f.num,.string f.data],.func (.func 105) #[] #[.pointer (some ⟨gm,0,none⟩)]] w fun e w'=> ∃v':NV,v'.c=(bS v.c f ck).1∧e= .returned (.tuple #[.agg ⟨NC v'⟩,.int .i64 (bS v.c f ck).2])∧OutN A w w' v':=by
 refine ai Tryz.func95 rfl Tryz.ntmps95 J J ?_
 have hzk:=hz.ks
 obtain⟨o,ho⟩:∃o,bX f.strm v.c.ks 0=o:=⟨_,rfl⟩
 repeat' (first|(refine bx ?_;intro g3)|(refine al ?_;intro g6)|refine cl (fun w hm=>qx v f.strm o w (hN.below hm.below) (by omega) ho) ?_|refine nx ?_)
 cases o with
 |none=>
  have hwl:bS v.c f ck=(v.c,10):=by unfold bS fj;rw[ho];rfl
  refine af J J ?_
  repeat' refine nx ?_
  (refine rt ?_;refine fun w1 hm=>⟨v,?_,?_,OutN.same hN hm.below⟩)
  · rw[hwl]
  · rw[hwl];rfl
 |some i=>
  obtain⟨q,hq,_⟩:=dR ho
  obtain⟨u,hu,huk⟩:∃u,v.kv[i]? =some u∧u.k=q:=by rw[hN.eq,List.getElem?_map]at hq;simpa using hq
  have hat:=gB hN.eq hu
  have hum:=List.mem_of_getElem? hu
  have hi:i<v.kv.length:=(List.getElem?_eq_some_iff.1 hu).1
  obtain⟨bb,off,hx,_,_,hrows⟩:=hN.ks (by omega)
  have hrow:w.rangeAt bb (off+i * 22) (KC u):=hrows i u hu
  obtain⟨hk1,hk2,hk3⟩:=hN.ok u hum
  obtain⟨hs1,hs2,hs3⟩:=hz.ok u hum
  have htx:=hgd.tx u hum
  have hfr:=hgd.fr u hum
  obtain⟨r,hr⟩:∃r,cQ u.k.ob u.k.st=r:=⟨_,rfl⟩
  have hrt:r.st.text.size≤4611686018427387900:=by rw[←hr];exact ni _ _ htx hfr
  obtain⟨r2,hr2⟩:∃r2,aZ r.st f=r2:=⟨_,rfl⟩
  have hwe:fj v.c f ck=if ck≠0 then ck else if r.err≠0 then r.err else r2.err:=by unfold fj;rw[ho];dsimp only;rw[hat,hr,hr2]
  refine aa rfl (show decide (((i:Nat):Int)<0)=false from decide_eq_false (by omega)) ?_
  repeat' (first|refine cl (fun w hm=>zP tc tt ck hck0 gm w (vR h5 hm.below) htt) ?_|refine nx ?_)
  by_cases hck:ck=0
  rotate_left
  · have hwl:bS v.c f ck=(v.c,ck):=by unfold bS;rw[hwe,if_pos hck,if_pos hck]
    refine af rfl (by simpa using hck) ?_
    repeat' refine nx ?_
    (refine rt ?_;refine fun w1 hm=>⟨v,?_,?_,OutN.same hN hm.below⟩)
    · rw[hwl]
    · rw[hwl];rfl
  refine aa rfl (by simpa using hck) ?_
  rw[if_neg (by simpa using hck)]at hwe
  rw[hx]
  repeat' (first|refine vx rfl (ia (m:=22) i hi) ?_|refine vx rfl (rj (cs:=KC u) hrow) ?_|(refine al ?_;intro g10)|refine cl (fun w hm=>DM u r hr w (hk3.below hm.below) hs3 htx hfr (hg.below hm.below)) ?_|refine nx ?_)
  by_cases he1:r.err=0
  rotate_left
  · have hwl:bS v.c f ck=(v.c,r.err):=by unfold bS;rw[hwe,if_pos he1,if_pos he1]
    refine af rfl (by simpa using he1) ?_
    rw[←hx]
    repeat' refine nx ?_
    (refine rt ?_;refine fun w1 hm=>⟨v,?_,?_,OutN.same hN hm.below⟩)
    · rw[hwl]
    · rw[hwl];rfl
  refine aa rfl (by simpa using he1) ?_
  rw[if_neg (by simpa using he1)]at hwe
  repeat' (first|(refine al ?_;intro g12)|refine cl (fun w hm=>qv r.st f r2 hr2 w hrt hfd (hg.below hm.below)) ?_|refine nx ?_)
  by_cases he2:r2.err=0
  rotate_left
  · have hwl:bS v.c f ck=(v.c,r2.err):=by unfold bS;rw[hwe,if_pos he2]
    refine af rfl (by simpa using he2) ?_
    rw[←hx]
    repeat' refine nx ?_
    (refine rt ?_;refine fun w1 hm=>⟨v,?_,?_,OutN.same hN hm.below⟩)
    · rw[hwl]
    · rw[hwl];rfl
  refine aa rfl (by simpa using he2) ?_
  have hwl:bS v.c f ck=(eW (fi v.c i (fun k=>{k with ob:=k.ob++[f]})) i,0):=by unfold bS;rw[hwe,if_neg (by simpa using he2),ho];rfl
  rw[hwl]
  rw[←hx]
  repeat' refine nx ?_
  refine cM (σ:=NV) (fun s=>s.c=v.c∧s.kv.map (·.k)=v.kv.map (·.k)) (fun s=> .agg ⟨NC s⟩) (fun s=>EN s) rfl (ag J J J J ⟨J,trivial⟩ rfl (by kernel_rfl)) (fun w1 hm=>dW v w1 (hN.below hm.below) hz) J J ?_
  rintro⟨c1,x1,xc1,kv1,o1,oc1,p1,pc1⟩ ⟨hc1,hkm⟩
  dsimp only at hc1 hkm
  subst hc1
  dsimp only[EN,List.cons_append,List.nil_append]
  obtain⟨u1,hu1,hu1k⟩:=mr hkm hu
  have hi1:i<kv1.length:=(List.getElem?_eq_some_iff.1 hu1).1
  have hob:u1.k.ob.length≤1000000000:=by rw[hu1k];exact hgd.ob u hum
  have hou:=hgd.ou
  refine bU (fun w h=>h.perm (uP [_,_,_] (kv1.flatMap EK) [_,_,_,_,_])) ?_
  refine bU (fun w h=>h.perm (qz ([_,_,_]++[_,_,_,_,_]) hu1)) ?_
  dsimp only[EK,List.cons_append,List.nil_append]
  refine jt 5 rfl (by omega) ?_
  rintro gx rfl
  repeat' (first|refine vx rfl (ia (m:=22) i hi1) ?_|(refine al ?_;intro g14)|refine nx ?_)
  refine dk 7 ak rfl (by kernel_rfl) ?_
  iterate 6 (((refine' cB rfl ?_ J J J ?_);rotate_left;first|exact cw ae 6 (v:= .slice u1.o u1.k.ob.length u1.oc) J J J J J J (fun _=>by rw[Nat.zero_add];exact bc aO hu1 (k:=21) rfl)|exact ax ae J J J J|exact ab ae 10 J J J J J))
  refine dT ae J J J ⟨J,trivial⟩ J J J J J J J J ?_
  refine bO ?_
  intro s1
  refine bB ae 3 0 J J J J J J J J J (fun _ _=>rfl) fP J J (by unfold maxLen;omega) (by omega) J J ?_
  intro sa sc
  repeat' refine dx ?_
  refine cR ae 7 J J J J J J J J J (show jw _ (0+i * 22+21) _=_ from by rw[Nat.zero_add];exact cL aO (kv1) i 21 (u1) ({u1 with k:={u1.k with ob:=u1.k.ob++[f]},o:=sa,oc:=sc}) _ hu1 (by rw[show u1.k.ob.length+1=(u1.k.ob++[f]).length by simp];rfl)) J J ?_
  repeat' refine nx ?_
  have htx2:({u1 with k:={u1.k with ob:=u1.k.ob++[f]},o:=sa,oc:=sc}:KV).k.st.text.size≤4611686018427387900:=by show u1.k.st.text.size≤_;rw[hu1k];exact htx
  have hfr2:∀x∈({u1 with k:={u1.k with ob:=u1.k.ob++[f]},o:=sa,oc:=sc}:KV).k.ob,x.data.size<4294967281:=fun x hx=>by
   rcases List.mem_append.1 hx with hx|hx
   · exact hfr x (by rw[←hu1k];exact hx)
   · obtain rfl:=List.mem_singleton.1 hx
     exact hfd
  have hk2:(kv1.set i {u1 with k:={u1.k with ob:=u1.k.ob++[f]},o:=sa,oc:=sc})[i]? =some {u1 with k:={u1.k with ob:=u1.k.ob++[f]},o:=sa,oc:=sc}:=dG hu1 _
  refine df (p:=u1.k.ob.length+1≤sc∧ ∀ad,sa=some ad→w.heap.size≤ad.block) (fun w h=>⟨fo (h.2.get (i:=3) rfl),fun ad had=>(Ent.ok.mut_lt (h.2.get (i:=3) rfl) (k:=ad.block) (by subst had;rfl)).1⟩) (fun hcp2=> ?_)
  obtain⟨hcap2,hnew⟩:=hcp2
  refine bU (fun w h=>(((Mem.toRep1 (u1.k.ob++[f]) dy (by simp) (by simp[fC]) ((h.mask [false,true,true,true,true,true,true,true,false,false,true,false,false] rfl).perm (List.perm_middle (l₁:=[_,_])))).perm (List.perm_middle (l₁:=[_]))).perm (List.perm_middle (l₁:=[_,_,_,_,_,_]))).perm (List.perm_middle (l₁:=[_,_,_,_,_,_]))) ?_
  dsimp only[List.cons_append,List.nil_append]
  refine bL (σ:=Value×lB) (fun s=>Eu v.c {u1 with k:={u1.k with ob:=u1.k.ob++[f]},o:=sa,oc:=sc} s.2∧js (u1.k.ob++[f]) u1.k.st v.c.sw v.c.ou=⟨s.2.st,s.2.w,s.2.r,s.2.ou⟩) (fun s=>s.1) (fun s=>_) rfl (ag J J J J ⟨J,J,trivial⟩ rfl (by kernel_rfl)) (fun w1 hM=>(kZ _ gx xc1 o1 oc1 p1 pc1 v.c (kv1.set i {u1 with k:={u1.k with ob:=u1.k.ob++[f]},o:=sa,oc:=sc}) kv1.length i {u1 with k:={u1.k with ob:=u1.k.ob++[f]},o:=sa,oc:=sc} hk2 _ w1 htx2 hfr2 (by show(u1.k.ob++[f]).length≤sc;simp;exact hcap2) (by show v.c.ou.length+(u1.k.ob++[f]).length≤_;simp;omega) (hM.2.get (i:=3) rfl).2.1 hg hM).mono fun e w' ⟨s,h1,h2,h3⟩=>⟨s,h1,h2,h3⟩) J J ?_
  rintro⟨rv,s⟩ ⟨hI,hsol⟩
  dsimp only at hI hsol ⊢
  have hC:eW (fi v.c i (fun k=>{k with ob:=k.ob++[f]})) i={v.c with sw:=s.w,ks:=v.c.ks.set i (uS {u1 with k:={u1.k with ob:=u1.k.ob++[f]},o:=sa,oc:=sc} s).k,ou:=s.ou}:=by
   have h9:=tR (c:=v.c) (i:=i) (g:=fun k=>{k with ob:=k.ob++[f]}) (k:=({u1 with k:={u1.k with ob:=u1.k.ob++[f]},o:=sa,oc:=sc}:KV).k) (by rw[hN.lenk];exact hi) (by rw[hat,←hu1k]) hsol
   exact h9
  rw[hC]
  repeat' refine nx ?_
  (refine rt ?_;refine fun w1 hm=>⟨⟨{v.c with sw:=s.w,ks:=v.c.ks.set i (uS {u1 with k:={u1.k with ob:=u1.k.ob++[f]},o:=sa,oc:=sc} s).k,ou:=s.ou},some ⟨gx,0,none⟩,xc1,(kv1.set i {u1 with k:={u1.k with ob:=u1.k.ob++[f]},o:=sa,oc:=sc}).set i (uS {u1 with k:={u1.k with ob:=u1.k.ob++[f]},o:=sa,oc:=sc} s),s.o,s.oc,p1,pc1⟩,rfl,?_,⟨?_,hm.below⟩⟩)
  · unfold NC
    simp only[List.length_set]
  · have hg1:=hm.2.get (i:=1) rfl
    rw[show kv1.length=((kv1.set i {u1 with k:={u1.k with ob:=u1.k.ob++[f]},o:=sa,oc:=sc}).set i (uS {u1 with k:={u1.k with ob:=u1.k.ob++[f]},o:=sa,oc:=sc} s)).length by simp]at hg1
    have hR:MemL w.heap.size w1 ((kv1.eraseIdx i).flatMap EK):=(hm.mask [false,false,false,false,false,false,false,false] rfl).2
    have hrep:=(hm.2.get (i:=3) rfl).2.1
    refine⟨(Rws.own aO hg1).mono fun _=> .inr,(Rws.own dy (hm.2.get (i:=0) rfl)).mono fun _=> .inr,(Rws.own eJ (hm.2.get (i:=6) rfl)).mono fun _=> .inr,?_,fun x hx=> ?_⟩
    · rw[List.set_set,List.map_set,hkm,hN.eq]
    · rw[List.set_set]at hx
      rcases fR hi1 hx with rfl|hx
      · refine⟨(Rws.own fO (hm.2.get (i:=4) rfl)).mono fun _=> .inr,(Rws.own eX (hm.2.get (i:=5) rfl)).mono fun _=> .inr,fun h0=> ?_⟩
        obtain⟨b,off1,j,e1,e2,e3⟩:=hI.at_ h0
        obtain⟨b',off',e4,_,e6,e7⟩:=hrep (by simp)
        have e1':sa=some ⟨b,off1,none⟩:=e1
        rw[e1']at e4
        obtain⟨rfl,rfl⟩:=(by simpa using e4:b=b'∧off1=off')
        refine⟨b,off1+j * 4,e2,.inr (hnew _ e1'),e6,fun n y hy=> ?_⟩
        have hy':(({u1 with k:={u1.k with ob:=u1.k.ob++[f]},o:=sa,oc:=sc}:KV).k.ob.drop j)[n]? =some y:=by rw[←e3];exact hy
        rw[List.getElem?_drop]at hy'
        have h8:=e7 (j+n) y hy'
        rw[show off1+j * 4+n * 4=off1+(j+n) * 4 by omega]
        exact h8
      · exact(KOk.own (nh hR hx)).mono fun _=> .inr
theorem Cq{A:Nat→Prop}(v:NV)(id:Int)(w:World)(hN:NOk A w v)(hz:rk v)(hgd:vp v)(hg:MLen w):Calls Tryz.prog 49 #[.agg #[.int .i64 v.c.sd,.int .i64 v.c.nx,.int .i64 v.c.la,.int .i64 v.c.aw,.int .i64 v.c.sz,.int .i64 v.c.sw.size,.int .i64 v.c.sw.left,.int .i64 v.c.sw.held,.int .i64 v.c.rw.size,.int .i64 v.c.rw.left,.int .i64 v.c.rw.held,.slice v.x v.kv.length v.xc,.slice v.o v.c.ou.length v.oc,.slice v.p v.c.pg.length v.pc,.bool v.c.cl],.int .i64 id] w fun e w'=> ∃v':NV,v'.c=(mT v.c id).1∧e= .returned (.tuple #[.agg ⟨NC v'⟩,.int .i64 (mT v.c id).2])∧OutN A w w' v':=by
 refine ai Tryz.func49 rfl Tryz.ntmps49 J J ?_
 repeat' (first|(refine bx ?_;intro g2)|(refine al ?_;intro g4)|refine nx ?_)
 refine jJ (σ:=NV) (fun s F=>s.c=(mT v.c id).1∧ ∀b,F b→A b∨w.heap.size≤b) (fun s=> .tuple ⟨[.agg ⟨NC s⟩,.int .i64 (mT v.c id).2]⟩) (fun s F w=>NOk F w s) rfl (ag J J J J ⟨J,J,J,trivial⟩ rfl (by kernel_rfl)) (fun w1 hm=>(xn v (⟨3,id,0,emptyB⟩:aS) 0 w1 (hN.lt.below hm.below) hz hgd (show(0:Nat)<4294967281 by decide) (hg.below hm.below) rfl).mono fun e w2 ⟨s,h1,h2,h3⟩=>by obtain⟨F,h4,h5⟩:=qB hm h3;exact⟨s,F,⟨h1,h4⟩,h2,h5⟩) J J ?_
 rintro⟨c1,x1,xc1,kv1,o1,oc1,p1,pc1⟩ F ⟨hc1,hF⟩
 dsimp only at hc1
 repeat' refine dx ?_
 (refine rt ?_;refine fun w1 hm=>⟨⟨c1,x1,xc1,kv1,o1,oc1,p1,pc1⟩,hc1,rfl,aL (hm.2.get (i:=0) rfl).2.1 hF hm.below⟩)
theorem Cr{A:Nat→Prop}(v:NV)(id tc:Int)(tt:ByteArray)(w:World)(hN:NOk A w v)(hz:rk v)(hgd:vp v)(hg:MLen w)(htt:tt.size≤4611686018427387900):Calls Tryz.prog 50 #[.agg #[.int .i64 v.c.sd,.int .i64 v.c.nx,.int .i64 v.c.la,.int .i64 v.c.aw,.int .i64 v.c.sz,.int .i64 v.c.sw.size,.int .i64 v.c.sw.left,.int .i64 v.c.sw.held,.int .i64 v.c.rw.size,.int .i64 v.c.rw.left,.int .i64 v.c.rw.held,.slice v.x v.kv.length v.xc,.slice v.o v.c.ou.length v.oc,.slice v.p v.c.pg.length v.pc,.bool v.c.cl],.int .i64 id,.agg #[.int .i64 tc,.string tt]] w fun e w'=> ∃v':NV,v'.c=(mU v.c id tc tt).1∧e= .returned (.tuple #[.agg ⟨NC v'⟩,.int .i64 (mU v.c id tc tt).2])∧OutN A w w' v':=by
 refine ai Tryz.func50 rfl Tryz.ntmps50 J J ?_
 obtain⟨pd,hpd⟩:∃x,fc tc tt=x:=⟨_,rfl⟩
 have hpz:pd.size<4294967281:=by rw[←hpd];exact qS tc tt
 have hal:mU v.c id tc tt=(bS v.c (⟨4,id,0,pd⟩:aS) (aP tc tt)):=by unfold mU;rw[hpd]
 rw[hal]
 refine aD ?_
 refine ap ?_
 (refine bx ?_;intro g3)
 (refine bx ?_;intro g5)
 repeat' (first|(refine al ?_;intro g6)|refine nx ?_)
 refine fJ (fun b=>b<w.heap.size) 9 [14] [15,16] [16] Hu ak rfl (by kernel_rfl) ?_
 iterate 3 (((refine' ji rfl ?_ J J J ?_);rotate_left;first|exact ax ae J J J J|exact ab ae 1 J J J J J|exact ab ae 2 J J J J J))
 refine vk rfl (ag J J J J ⟨J,trivial⟩ rfl (by kernel_rfl)) (fun w1 hm=>Gy tc tt pd hpd w1 htt) J J J ?_
 iterate 2 (((refine' ji rfl ?_ J J J ?_);rotate_left;first|exact wG J J trivial rfl ⟨J,trivial⟩|exact aj ae J J ⟨J,J,J,trivial⟩ J J J))
 refine eR (σ := NV × (Nat → Prop)) (fun s => s.1.c = (bS v.c (⟨4, id, 0, pd⟩ : aS) (aP tc tt)).1 ∧ ∀ b, s.2 b → A b ∨ w.heap.size ≤ b) (fun s => .tuple ⟨[.agg ⟨NC s.1⟩, .int .i64 (bS v.c (⟨4, id, 0, pd⟩ : aS) (aP tc tt)).2]⟩) (fun s => [.rep s.2 (fun w => NOk s.2 w s.1)]) rfl (ag J J J J ⟨J, J, J, trivial⟩ rfl (by kernel_rfl)) (fun w1 hm=>(xp v (⟨4,id,0,pd⟩:aS) (aP tc tt) tc tt g5 w1 (hN.lt.below hm.below) hz hgd hpz (hg.below hm.below) (DU 1 hm rfl) htt rfl).mono fun e w2 ⟨s,h1,h2,h3⟩=>by
  obtain⟨Fs,g,k1,k2,k3,k4,k5⟩:=Cp (O:=fun b=>b<w.heap.size) h3 (fun b hb=>hb.2)
  exact⟨⟨(s,Fs),g,⟨h1,fun b hb=>(k5 b hb).elim (fun h=> .inl h.1) (fun h=> .inr (Nat.le_trans hm.1.size h))⟩,h2,k1,k2,k3,k4⟩,h3.2⟩) J J J J J ?_
 refine fQ 6 0 (m:=2) J J (fun x ⟨s,_,e⟩=>⟨_,e,rfl⟩) J J J J J J (by kernel_rfl) ?_
 refine fQ 6 1 (m:=2) J J (fun x ⟨s,_,e⟩=>⟨_,e,rfl⟩) J J J J J J (by kernel_rfl) ?_
 refine lA ?_
 refine jP ?_
 rintro⟨⟨c1,x1,xc1,kv1,o1,oc1,p1,pc1⟩,F⟩ ⟨hc1,hF⟩
 dsimp only at hc1 hF
 refine gX (.agg ⟨NC ⟨c1,x1,xc1,kv1,o1,oc1,p1,pc1⟩⟩) J J ?_
 refine gX (.int .i64 (bS v.c (⟨4,id,0,pd⟩:aS) (aP tc tt)).2) J J ?_
 refine ox ?_
 dsimp only[List.cons_append,List.nil_append]
 repeat' refine dx ?_
 (refine rt ?_;refine fun w1 hm=>⟨⟨c1,x1,xc1,kv1,o1,oc1,p1,pc1⟩,hc1,rfl,aL (hm.2.get (i:=0) rfl).2.1 hF hm.below⟩)
end
end Go.Proofs.YthiocbcokfondaaGreatDoor.Y
