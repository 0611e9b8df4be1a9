import Derived.Test.YthiocbcokfondaaGreatDoorJBunC14
import Derived.Test.YthiocbcokfondaaGreatDoorJBunT
set_option maxRecDepth 100000
set_option maxHeartbeats 32000000
namespace Go.Proofs.YthiocbcokfondaaGreatDoor.Y
section
end
section
def exH:io:=⟨⟨#[97,46,83]⟩,⟨#[71,101,116]⟩,0,[]⟩
def CU(n:Int):bk:=⟨10,n,0⟩
def xf:NL:=⟨1,1,0,0,10,CU 10,CU 10,[],[],[],false⟩
theorem ID:fG 1 10=(xf,0):=by kernel_rfl
def G6(n:Int)(l:Int):bZ:=⟨1,1,4,n,0,false,false,false,0,⟨#[]⟩,CU l,CU 10⟩
def vD:aS:=⟨1,1,4,oQ exH⟩
def xg:NL:=⟨1,2,1,0,10,CU 10,CU 10,[⟨G6 0 10,exH.svc,exH.mth,0,[],[],[]⟩],[vD],[],false⟩
theorem Ig:bN xf exH 4=(xg,1,0):=by kernel_rfl
def Hq:ByteArray:=⟨#[97,98,99,100]⟩
def G7:ByteArray:=⟨#[97,98,99,100,101,102,103]⟩
def tU:aS:=⟨2,1,0,Hq⟩
def zD:NL:=⟨1,2,1,0,10,CU 6,CU 10,[⟨G6 1 6,exH.svc,exH.mth,0,[],[],[]⟩],[vD,tU],[],false⟩
theorem Ih:jF xg 1 Hq=(zD,0):=by kernel_rfl
def rJ:NL:=⟨1,2,1,0,10,CU 6,CU 10,[⟨G6 1 6,exH.svc,exH.mth,0,[],[],[⟨2,1,0,G7⟩]⟩],[vD,tU],[],false⟩
theorem Ii:jF zD 1 G7=(rJ,0):=by kernel_rfl
theorem Ij:mV rJ 1=(⟨G6 1 6,exH.svc,exH.mth,0,[],[],[⟨2,1,0,G7⟩]⟩,true):=by kernel_rfl
theorem IE:ko rJ=true:=by kernel_rfl
end
section
open Go.RowKit
structure SzL(c:NL):Prop where
 ks:c.ks.length≤600000000
 ou:c.ou.length≤1000000000∧ ∀f∈c.ou,f.data.size<4294967281
 pg:c.pg.length≤1000000000
 tb:ba c.ks≤4611686018427387904
 ok:∀k∈c.ks,k.ms.length≤1000000000∧k.ib.length≤1000000000∧k.ob.length≤1000000000∧k.st.text.size≤4611686018427387900∧(∀f∈k.ob,f.data.size<4294967281)∧aT k.ib≤4611686018427387904∧fK k.hd
theorem NOk.inks{A:Nat→Prop}{w:World}{v:NV}(h:NOk A w v){u:KV}(hu:u∈v.kv):u.k∈v.c.ks:=by rw[h.eq];exact List.mem_map_of_mem hu
theorem SzL.n{A:Nat→Prop}{w:World}{v:NV}(h:SzL v.c)(hN:NOk A w v):rk v:=by
 have h1:=h.ks
 have h2:=h.ou.1
 have h3:=h.pg
 have h4:=hN.lenk
 exact ⟨by omega,by omega,by omega,fun u hu=>by
  obtain⟨a,b,c,_⟩:=h.ok _ (hN.inks hu)
  exact⟨by omega,by omega,by omega⟩⟩
theorem SzL.g{A:Nat→Prop}{w:World}{v:NV}(h:SzL v.c)(hN:NOk A w v):vp v:=⟨fun _ hu=>(h.ok _ (hN.inks hu)).2.2.2.1,fun _ hu=>(h.ok _ (hN.inks hu)).2.2.2.2.1,fun _ hu=>(h.ok _ (hN.inks hu)).2.2.1,h.ou.1⟩
theorem SzL.v{A:Nat→Prop}{w:World}{v:NV}(h:SzL v.c)(hN:NOk A w v):G5 v:=⟨fun _ hu=>(h.ok _ (hN.inks hu)).2.2.2.2.2.1,h.tb,fun _ hu=>(h.ok _ (hN.inks hu)).2.2.2.2.2.2,h.ou.2⟩
theorem Fd{c:NL}(h1:c.ks=[])(h2:c.ou=[])(h3:c.pg=[]):SzL c:=by
 refine⟨by rw[h1];decide,by rw[h2];exact⟨by decide,fun _ h=>by cases h⟩,by rw[h3];decide,by rw[h1];decide,fun k hk=> ?_⟩
 rw[h1]at hk;cases hk
theorem G8:fK exH:=⟨by decide,by decide,fun _ h=>by cases h⟩
theorem szX1:SzL xf:=Fd J J J
theorem szX2:SzL xg:=⟨by decide,⟨by decide,fun f hf=>by obtain rfl:=List.mem_singleton.1 hf;exact of_decide_eq_true (by kernel_rfl)⟩,by decide,of_decide_eq_true (by kernel_rfl),fun k hk=>by
 obtain rfl:=List.mem_singleton.1 hk
 exact⟨by decide,by decide,by decide,by decide,(fun _ h=>by cases h),by decide,G8⟩⟩
theorem yd{p:aS→Prop}(h1:p vD)(h2:p tU):∀f∈ [vD,tU],p f:=fun f hf=>by
 rcases List.mem_cons.1 hf with rfl|hf
 · exact h1
 · obtain rfl:=List.mem_singleton.1 hf
   exact h2
theorem szX3:SzL zD:=⟨by decide,⟨by decide,yd (of_decide_eq_true (by kernel_rfl)) (of_decide_eq_true (by kernel_rfl))⟩,by decide,of_decide_eq_true (by kernel_rfl),fun k hk=>by
 obtain rfl:=List.mem_singleton.1 hk
 exact⟨by decide,by decide,by decide,by decide,(fun _ h=>by cases h),by decide,G8⟩⟩
theorem szX4:SzL rJ:=⟨by decide,⟨by decide,yd (of_decide_eq_true (by kernel_rfl)) (of_decide_eq_true (by kernel_rfl))⟩,by decide,of_decide_eq_true (by kernel_rfl),fun k hk=>by
 obtain rfl:=List.mem_singleton.1 hk
 exact⟨by decide,by decide,by decide,by decide,(fun f hf=>by obtain rfl:=List.mem_singleton.1 hf;exact of_decide_eq_true (by kernel_rfl)),by decide,G8⟩⟩
theorem Cb{F0:Nat→Prop}{w w1 w2:World}{M:List Ent}{s:NV}(hm:Mem w w1 M)(hF:∀b,F0 b→ ∀f∈M,¬f.mut b)(h:OutN F0 w1 w2 s):∃F:Nat→Prop,Mem w w2 (.rep F (fun w=>NOk F w s)::M):=
 ⟨_,Mem.out hm (A:=F0) hF h.2 (fun F w=>NOk F w s) h.1.lt (fun _ _ _ hk h=>h.agree hk)⟩
attribute [local irreducible] Calls
theorem Fe  (w:World):Calls Tryz.prog 16 #[] w fun e w'=>e= .returned (.agg #[.string exH.svc,.string exH.mth,.int .i64 exH.late,.slice none exH.metas.length 0])∧Below w.heap.size w w':=by
 refine ai Tryz.func16 rfl Tryz.ntmps16 J J ?_
 repeat' (first|(refine al ?_;intro g)|refine nx ?_)
 (refine rt ?_;refine fun w hm=>⟨?_,hm.below⟩)
 rfl
theorem Gv{A:Nat→Prop}{w:World}{v:NV}(hN:NOk A w v)(hg:MLen w)(hc:v.c=rJ):Calls Tryz.prog 8 #[.agg ⟨NC v⟩] w fun e w'=>e= .returned (.bool true)∧Below w.heap.size w w':=by
 have hs:SzL v.c:=by rw[hc];exact szX4
 exact(vC v w hN (hs.n hN) (hs.g hN) (hs.v hN) hg).mono fun e w' h=>⟨by rw[h.1,hc,IE],h.2⟩
theorem ye  (w:World) (hg:MLen w):Calls Tryz.prog 13 #[] w fun e w'=>e= .returned (.bool true)∧Below w.heap.size w w':=by
 refine ai Tryz.func13 rfl Tryz.ntmps13 J J ?_
 repeat' refine nx ?_
 refine aH (v:= .tuple ⟨[.agg ⟨NC (ju xf)⟩,.int .i64 0]⟩) rfl (ag J J J J ⟨J,J,trivial⟩ rfl (by kernel_rfl)) (fun w1 hm=>(vo 1 10 w1).mono fun e w2 h=>⟨by rw[h.1,ID],h.2⟩) J J ?_
 repeat' (first|(refine al ?_;intro g1)|refine nx ?_)
 refine fJ (fun _=>False) 7 [18] [15,19,20,21] [20,21] (fun _ _ _ h=>h.elim) ak rfl (by kernel_rfl) ?_
 ((refine' ji rfl ?_ J J J ?_);rotate_left;exact ab ae 0 J J J J J)
 refine vk rfl (ag J J J J trivial rfl (by kernel_rfl)) (fun w1 hm=>Fe w1) J J J ?_
 refine eR (σ:=NV×(Nat→Prop)) (fun s=>s.1.c=xg) (fun s=> .tuple #[.agg ⟨NC s.1⟩,.int .i64 1,.int .i64 0]) (fun s=>[.rep s.2 (fun w=>NOk s.2 w s.1)]) rfl (ag J J J J ⟨J,J,J,trivial⟩ rfl (by kernel_rfl)) (fun w1 hm=> ?_) J J J J J ?_
 · refine(sT (A:=fun _=>False) (ju xf) exH none 0 4 w1 (pz J J J) (szX1.n (A:=fun _=>False) (w:=w1) (pz J J J)) (szX1.g (A:=fun _=>False) (w:=w1) (pz J J J)) (hg.below hm.below) (by kernel_rfl) (by decide) bV G8 (of_decide_eq_true (by kernel_rfl)) (by decide)).mono fun e w2 ⟨v',h1,h2,h3,h4⟩=> ?_
   refine⟨⟨(v',fun b=>(False∨w1.heap.size≤b)∧b<w2.heap.size),fun b=>w1.heap.size≤b∧b<w2.heap.size,by rw[h1];exact congrArg (·.1) Ig,by rw[h2];rw[show(ju xf).c=xf from rfl,Ig],⟨⟨fun _ h=>h.2,h3.lt,fun w3 w4 hk h=>h.agree hk⟩,fun f hf=>(by cases hf),trivial⟩,fun f hf b hm=> ?_,fun f hf b hm=> ?_,fun _ h=>h⟩,h4⟩
   · obtain rfl:=List.mem_singleton.1 hf
     exact hm.elim
   · obtain rfl:=List.mem_singleton.1 hf
     exact .inl ⟨hm.1.elim (fun h=>h.elim) id,hm.2⟩
 refine qw 2 J J J J J J J (by kernel_rfl) ?_
 refine fQ 3 0 (m:=3) J J (fun x ⟨s,_,e⟩=>⟨_,e,rfl⟩) J J J J J J (by kernel_rfl) ?_
 refine fQ 3 1 (m:=3) J J (fun x ⟨s,_,e⟩=>⟨_,e,rfl⟩) J J J J J J (by kernel_rfl) ?_
 refine fQ 3 2 (m:=3) J J (fun x ⟨s,_,e⟩=>⟨_,e,rfl⟩) J J J J J J (by kernel_rfl) ?_
 refine lA ?_
 refine jP ?_
 rintro⟨⟨c2,x2,xc2,kv2,o2,oc2,p2,pc2⟩,F2⟩ h1
 dsimp only at h1
 subst h1
 refine gX _ J J ?_
 refine gX (.agg ⟨NC ⟨xg,x2,xc2,kv2,o2,oc2,p2,pc2⟩⟩) J J ?_
 refine gX (.int .i64 1) J J ?_
 refine gX (.int .i64 0) J J ?_
 refine ox ?_
 dsimp only[List.cons_append,List.nil_append]
 repeat' refine nx ?_
 refine bL (σ:=NV×(Nat→Prop)) (fun s=>s.1.c=zD) (fun s=> .tuple ⟨[.agg ⟨NC s.1⟩,.int .i64 0]⟩) (fun s=>[.rep s.2 (fun w=>NOk s.2 w s.1),.cl g1 28 (NC ⟨xg,x2,xc2,kv2,o2,oc2,p2,pc2⟩)]) rfl (ag J J J J ⟨J,J,J,trivial⟩ rfl (by kernel_rfl)) (fun w1 hm=> ?_) J J ?_
 · obtain⟨_,hN,_⟩:=hm.2.get (i:=0) rfl
   refine(mv (A:=F2) ⟨xg,x2,xc2,kv2,o2,oc2,p2,pc2⟩ 1 Hq w1 hN (szX2.n hN) (szX2.g hN) (hg.below hm.below) (by decide)).mono fun e w2 ⟨v',h1,h2,h3⟩=> ?_
   obtain⟨F,hF⟩:=Cb (M:=[.cl g1 _ _]) (hm.mask [false,true] rfl) (fun b hb f hf=>jI hm.2 (i:=0) rfl b hb f (List.mem_cons_of_mem _ hf)) h3
   exact⟨(v',F),by rw[h1,Ih],by rw[h2,Ih],hF⟩
 rintro⟨⟨c3,x3,xc3,kv3,o3,oc3,p3,pc3⟩,F3⟩ h1
 dsimp only at h1
 subst h1
 repeat' refine nx ?_
 refine bL (σ:=NV×(Nat→Prop)) (fun s=>s.1.c=rJ) (fun s=> .tuple ⟨[.agg ⟨NC s.1⟩,.int .i64 0]⟩) (fun s=>[.rep s.2 (fun w=>NOk s.2 w s.1),.cl g1 28 (NC ⟨zD,x3,xc3,kv3,o3,oc3,p3,pc3⟩)]) rfl (ag J J J J ⟨J,J,J,trivial⟩ rfl (by kernel_rfl)) (fun w1 hm=> ?_) J J ?_
 · obtain⟨_,hN,_⟩:=hm.2.get (i:=0) rfl
   refine(mv (A:=F3) ⟨zD,x3,xc3,kv3,o3,oc3,p3,pc3⟩ 1 G7 w1 hN (szX3.n hN) (szX3.g hN) (hg.below hm.below) (by decide)).mono fun e w2 ⟨v',h1,h2,h3⟩=> ?_
   obtain⟨F,hF⟩:=Cb (M:=[.cl g1 _ _]) (hm.mask [false,true] rfl) (fun b hb f hf=>jI hm.2 (i:=0) rfl b hb f (List.mem_cons_of_mem _ hf)) h3
   exact⟨(v',F),by rw[h1,Ii],by rw[h2,Ii],hF⟩
 rintro⟨⟨c4,x4,xc4,kv4,o4,oc4,p4,pc4⟩,F4⟩ h1
 dsimp only at h1
 subst h1
 repeat' refine nx ?_
 refine Bq (σ:=NV×(Option Addr×Nat)) (fun _=>True) (fun s=> .tuple ⟨[.agg ⟨NC s.1⟩,.slice s.2.1 2 s.2.2]⟩) (fun s F w=>Rws F w 4 fC s.2.1 [vD,tU]) rfl (ag J J J J ⟨J,trivial⟩ rfl (by kernel_rfl)) (fun w1 hm=> ?_) J J ?_
 · obtain⟨_,hN,_⟩:=hm.2.get (i:=0) rfl
   exact(qy (A:=F4) ⟨rJ,x4,xc4,kv4,o4,oc4,p4,pc4⟩ w1 hN (szX4.n hN)).mono fun e w2 ⟨v',p,h1,h2,h3,h4⟩=>⟨(v',p),_,trivial,h2,Mem.out hm (A:=fun _=>False) (fun b hb=>hb.elim) h3.2 (fun F w=>Rws F w 4 fC p.1 [vD,tU]) ((h4.mono fun _=> .inr).lt) (fun F w3 w4 hk h=>h.agree hk)⟩
 rintro⟨⟨c5,x5,xc5,kv5,o5,oc5,p5,pc5⟩,la,lc⟩ Fl -
 refine df (p:= ∃b off,la=some ⟨b,off,none⟩∧ ∀w,Rws Fl w 4 fC la [vD,tU]→w.rangeAt b (off+1 * 4) (fC tU)) (fun w hM=> ?_) ?_
 · obtain⟨_,hS,_⟩:=hM.2.get (i:=0) rfl
   obtain⟨b,off,hx,hh⟩:=tA hS (by decide)
   exact⟨b,off,hx,fun w2 h2=>hh w2 h2 1 _ rfl⟩
 rintro⟨yl,ol,rfl,hr⟩
 repeat' (first|(refine al ?_;intro g5)|refine nx ?_)
 refine Bp (σ:=KV) (fun s=>s.k=(mV rJ 1).1) (fun s=> .tuple ⟨[.agg ⟨KC s⟩,.bool true]⟩) rfl (ag J J J J ⟨J,J,trivial⟩ rfl (by kernel_rfl)) (fun w1 hm=> ?_) J J ?_
 · obtain⟨_,hN,_⟩:=hm.2.get (i:=2) rfl
   exact(zp (A:=F4) ⟨rJ,x4,xc4,kv4,o4,oc4,p4,pc4⟩ 1 w1 hN (szX4.n hN)).mono fun e w2 ⟨v',h1,h2,_,h3⟩=>⟨v',h1,by rw[h2,show(mV rJ 1).2=true by rw[Ij]],h3⟩
 rintro⟨k6,m6,mc6,i6,ic6,o6,oc6⟩ h1
 rw[Ij]at h1
 dsimp only at h1
 subst h1
 repeat' (first|refine vx rfl (mj ae (m:=4) 1 J J J J J J J J (fun _=>rfl) (fun _=>(show 1<2 by decide))) ?_|refine vx rfl (tu ae 2 (cs:=fC tU) J J J J J J (fun _ w hp=>hr w hp)) ?_|(refine al ?_;intro g6)|refine cl (fun w hm=>Gv (hm.2.get (i:=3) rfl).2.1 (hg.below hm.below) rfl) ?_|refine nx ?_)
 (refine rt ?_;refine fun w hm=>⟨?_,hm.below⟩)
 kernel_rfl
end
end Go.Proofs.YthiocbcokfondaaGreatDoor.Y
