import Derived.Test.YthiocbcokfondaaGreatDoorJBunN5
import Derived.Test.YthiocbcokfondaaGreatDoorJBunQ
import Derived.Test.YthiocbcokfondaaGreatDoorJBunC17
set_option maxRecDepth 100000
set_option maxHeartbeats 32000000
namespace Go.Proofs.YthiocbcokfondaaGreatDoor.Y
section
theorem ua{c:NL}{i:Nat}{k:KR}(hi:c.ks[i]? =some k)(hw:bi c.sw=true)(hv:VS k.st)(h0:k.st.snd.held=0)(ha:(cQ k.ob k.st).err=0):jl c i k=eW c i:=by
 obtain⟨h1,h2,h3,h4⟩:=CC k.ob k.st c.sw c.ou hv h0 hw ha
 rw[gC hi]
 unfold jl GJ EF
 rw[h4,h1,h2,h3]
theorem CD{c:NL}(h:VB c){i:Nat}{k:KR}(hi:c.ks[i]? =some k):jl c i k=eW c i:=by
 have hp:=h.pk k (List.mem_of_getElem? hi)
 exact ua hi h.sw hp.vs hp.h0 hp.ahd
theorem uc{c:NL}(h:VN c){f:aS}{i:Nat}{k:KR}(hf:bX f.strm c.ks 0=some i)(hi:c.ks[i]? =some k):jm c i k f=bS c f 0:=by
 have hp:=h.pk k (List.mem_of_getElem? hi)
 have hil:=(List.getElem?_eq_some_iff.1 hi).1
 have hwe:fj c f 0=qW k f:=by
  unfold fj qW
  rw[hf]
  dsimp only
  rw[cF hi,if_neg (by simp),if_neg (by simpa using hp.ahd)]
 unfold jm bS
 rw[hwe,hf]
 split
 · rfl
 · rename_i hn
   have hq:qW k f=0:=Decidable.not_not.1 hn
   have hah:=nu hp.ahd hq
   rw[show(some i).getD 0=i from rfl,bC hi]
   rw[ua (k:={k with ob:=k.ob++[f]}) (c:={c with ks:=c.ks.set i {k with ob:=k.ob++[f]}}) (List.getElem?_set_self hil) h.sw hp.vs hp.h0 hah]
theorem oG{c:NL}{f:aS}(chk:Int)(hf:bX f.strm c.ks 0=none):bS c f chk=(c,10):=by
 have e:fj c f chk=10:=by unfold fj;rw[hf]
 unfold bS
 rw[e,if_pos (by decide)]
theorem vZ{c:NL}{f:aS}{chk:Int}{i:Nat}(hf:bX f.strm c.ks 0=some i)(h:chk≠0):bS c f chk=(c,chk):=by
 have e:fj c f chk=chk:=by unfold fj;rw[hf];dsimp only;rw[if_pos h]
 unfold bS
 rw[e,if_pos h]
theorem CE(c:NL)(msg:ByteArray):lN c msg=0∨lN c msg=3:=by unfold lN;split<;>simp
theorem yw{c:NL}(h:VN c)(id:Int)(msg:ByteArray):lf c id msg=jF c id msg:=by
 unfold lf jF
 cases hf:bX id c.ks 0 with
 |none=>exact(oG (f:=⟨2,id,0,msg⟩) _ hf).symm
 |some i=>
  obtain⟨k,hi,_⟩:=dg hf
  dsimp only
  rcases CE c msg with e|e
  · rw[e,if_neg (by simp),cF hi]
    exact uc h (f:=⟨2,id,0,msg⟩) hf hi
  · rw[e,if_pos (by decide)]
    exact(vZ (f:=⟨2,id,0,msg⟩) hf (by decide)).symm
theorem yx{c:NL}(h:VN c)(id:Int):nE c id=mT c id:=by
 unfold nE mT
 cases hf:bX id c.ks 0 with
 |none=>exact(oG (f:=⟨3,id,0,emptyB⟩) _ hf).symm
 |some i=>
  obtain⟨k,hi,_⟩:=dg hf
  dsimp only
  rw[cF hi]
  exact uc h (f:=⟨3,id,0,emptyB⟩) hf hi
def lg(c:NL)(id code:Int)(tx:ByteArray):NL×Int:=match bX id c.ks 0 with
 |none=>(c,10)
 |some i=>if aP code tx≠0 then(c,aP code tx)else jm c i (iU c i) ⟨4,id,0,fc code tx⟩
theorem yy{c:NL}(h:VN c)(id code:Int)(tx:ByteArray):lg c id code tx=mU c id code tx:=by
 unfold lg mU
 cases hf:bX id c.ks 0 with
 |none=>exact(oG (f:=⟨4,id,0,fc code tx⟩) _ hf).symm
 |some i=>
  obtain⟨k,hi,_⟩:=dg hf
  dsimp only
  by_cases e:aP code tx=0
  · rw[e,if_neg (by simp),cF hi]
    exact uc h (f:=⟨4,id,0,fc code tx⟩) hf hi
  · rw[if_pos e]
    exact(vZ (f:=⟨4,id,0,fc code tx⟩) hf e).symm
theorem Ap{s:bZ}{id n:Int}(h:(aZ s ⟨5,id,n,emptyB⟩).err=0):(aZ s ⟨5,id,n,emptyB⟩).st=dq s n ⟨#[]⟩:=by
 have ho:=fT h
 generalize (aZ s ⟨5,id,n,emptyB⟩).st=t at *
 cases ho.h with
 |data hk=>simp at hk
 |fin hk=>simp at hk
 |stat hk=>simp at hk
 |reset hk=>rfl
def lh(c:NL)(id code:Int):NL×Int:=match bX id c.ks 0 with
 |none=>(c,10)
 |some i=>if(aZ (iU c i).st ⟨5,id,code,emptyB⟩).err≠0 then(c,(aZ (iU c i).st ⟨5,id,code,emptyB⟩).err)
  else({c with ks:=c.ks.set i {iU c i with st:=(aZ (iU c i).st ⟨5,id,code,emptyB⟩).st,ob:=[]},ou:=c.ou++[⟨5,id,code,emptyB⟩]},0)
theorem yz(c:NL)(id code:Int):lh c id code=ga c id code:=by
 unfold lh ga lO
 cases hf:bX id c.ks 0 with
 |none=>
  dsimp only
  rw[if_pos (by decide)]
 |some i=>
  obtain⟨k,hi,_⟩:=dg hf
  dsimp only
  obtain rfl:=cF hi
  split
  · rfl
  · rename_i hn
    have he:(aZ (iU c i).st ⟨5,id,code,emptyB⟩).err=0:=Decidable.not_not.1 hn
    have hs:dE {iU c i with st:=(aZ (iU c i).st ⟨5,id,code,emptyB⟩).st}={iU c i with st:=(aZ (iU c i).st ⟨5,id,code,emptyB⟩).st,ob:=[]}:=by
     unfold dE
     exact if_pos (by show(aZ (iU c i).st ⟨5,id,code,emptyB⟩).st.done=true;rw[Ap he];rfl)
    rw[show(some i).getD 0=i from rfl,bC hi,hs]
theorem CF{l:List aS}{s:bZ}{w:bk}(o:List aS)(h1:0≤s.snd.left)(h2:0≤w.left)(h:∀f r,l=f::r→s.snd.left<bF f∨w.left<bF f):kA l s w o=⟨s,w,l,o⟩:=by
 cases l with
 |nil=>rw[kA]
 |cons f r=>
  have h3:=h f r rfl
  have hk:f.kind=2:=by
   refine Decidable.byContradiction fun hk=> ?_
   have e:bF f=0:=by unfold bF;rw[if_neg hk]
   rw[e]at h3
   omega
  rw[kA,if_pos ⟨hk,by rw[←ej hk];exact h3⟩]
theorem DY{l:List aS}{s:bZ}{w:bk}(o:List aS)(h:∀f r,l=f::r→s.snd.left<bF f∨w.left<bF f):js l s w o=⟨s,w,l,o⟩:=by
 cases l with
 |nil=>rw[js]
 |cons f r=>rw[js,if_pos (h f r rfl)]
theorem we{c:NL}{i:Nat}{k:KR}(hi:c.ks[i]? =some k)(h:NF c.sw k):eW c i=c:=by
 rw[gC hi,DY c.ou h]
 dsimp only
 rw[show({k with st:=k.st,ob:=k.ob}:KR)=k from rfl,vS hi]
theorem Aq{c:NL}{i:Nat}{k:KR}(h1:0≤k.st.snd.left)(h2:0≤c.sw.left)(h:NF c.sw k):jl {c with ks:=c.ks.set i k} i k={c with ks:=c.ks.set i (dE k)}:=by
 have e:EF {c with ks:=c.ks.set i k} k=⟨k.st,c.sw,k.ob,c.ou⟩:=CF c.ou h1 h2 h
 unfold jl GJ
 rw[e]
 dsimp only
 rw[List.set_set]
 unfold dE
 split<;>rfl
def jX(k:KR)(f:aS):KR:={k with st:=(bu k.st f).st,ib:=if f.kind=2∧k.st.done=false then k.ib++[f.data]else k.ib}
def sY(c:NL)(i:Nat)(k:KR):NL:={c with ks:=c.ks.set i {k with st:=(aZ k.st (iV k)).st,ob:=[]},ou:=c.ou++[iV k]}
def pb(c:NL)(f:aS):NL:=match bX f.strm c.ks 0 with
 |none=>c
 |some i=>if(bu (iU c i).st f).err≠0 then sY c i (iU c i)else jl {c with ks:=c.ks.set i (jX (iU c i) f)} i (jX (iU c i) f)
def gh(c:NL)(f:aS):NL:=match bX f.strm c.ks 0 with
 |none=>c
 |some i=>if f.kind=2 then(if oh c i f=true then fi (dL c i f) i (fun k=>{k with ib:=k.ib++[f.data]})else dL c i f)else eW (dL c i f) i
theorem DZ{c:NL}(h:VN c){i:Nat}{k:KR}(hi:c.ks[i]? =some k){f:aS}(hf:aA f=0)(hid:f.strm=k.st.id)(hkk:2≤f.kind∧f.kind≤6)(he:(bu k.st f).err≠0):sY c i k=dL c i f:=by
 obtain⟨k',e,hr⟩:=gG h hi hf hid hkk
 obtain⟨e1,e2⟩:=hr.no he
 have hp:=h.pk k (List.mem_of_getElem? hi)
 have hd0:k.st.done=false:=eq_false_of_ne_true fun e=>he (by rw[qI ⟨fS.2 hp.vs,hf,hid,hkk,.old e⟩])
 have hid':=hp.vs.id
 have hso:SndOk k.st (iV k) (dq k.st 11 ⟨#[]⟩):=⟨fS.2 hp.vs,G9 hid'.1 hid'.2 (by decide) (by decide),rfl,hd0,.reset rfl⟩
 rw[hr.eq,e1,e2]
 unfold sY
 rw[jR hso]
theorem D0{s t:bZ}{f:aS}(h:RcvOk s f t)(h6:f.kind≠6):t.snd=s.snd:=by
 cases h.h with
 |win hd hk=>exact absurd hk h6
 |_=>rfl
theorem ud{c:NL}(h:VN c)(hc:c.cl=false){f:aS}(hf:aA f=0)(hkk:2≤f.kind∧f.kind≤6):pb c f=gh c f:=by
 unfold pb gh
 cases hfi:bX f.strm c.ks 0 with
 |none=>rfl
 |some i=>
  obtain⟨k,hi,hid⟩:=dg hfi
  have hil:=(List.getElem?_eq_some_iff.1 hi).1
  dsimp only
  rw[cF hi]
  obtain⟨k',e,hr⟩:=gG h hi hf hid.symm hkk
  obtain⟨v1,v2,v3,v4⟩:=kw h hc hi hr
  have hp:=h.pk k (List.mem_of_getElem? hi)
  have hn:=h.nf k (List.mem_of_getElem? hi)
  by_cases he:(bu k.st f).err=0
  rotate_left
  · have hb:oh c i f=false:=by unfold oh;rw[cF hi,decide_eq_false he];rfl
    rw[if_pos he,DZ h hi hf hid.symm hkk he,hb]
    split
    · rw[if_neg (by simp)]
    · obtain⟨_,e2⟩:=hr.no he
      exact(we v3 (by rw[e2];intro g r e;cases e)).symm
  rw[if_neg (by rw[he];simp)]
  have ho:=vG he
  obtain⟨e1,e2⟩:=hr.ok he
  have heq:dL c i f={c with ks:=c.ks.set i k'}:=by rw[hr.eq,e1,List.append_nil]
  have hsl:=aW.1 hp.vs.sn
  have hwl:=aW.1 h.sw
  by_cases h6:f.kind=6
  · have hkr:jX k f={k with st:=(bu k.st f).st}:=by unfold jX;rw[if_neg (by omega)]
    rw[if_neg (by omega),heq,hkr]
    have hk':k'={k with st:=(bu k.st f).st}:=by
     rw[e2]
     unfold dE
     split
     · rename_i hd
       have hob:k.ob=[]:=by
        cases hd0:k.st.done with
        |true=>exact hp.dn hd0
        |false=>
         exfalso
         have hd':(bu k.st f).st.done=true:=hd
         have h9:=ho.h
         generalize (bu k.st f).st=t at *
         cases h9 with
         |old hx=>rw[hd0]at hx;cases hx
         |data hd hk=>omega
         |fin hd hk=>omega
         |stat hd hk=>omega
         |reset hd hk=>omega
         |win hd hk=>rw[show({k.st with snd:=⟨k.st.snd.size,k.st.snd.left+f.num,k.st.snd.held⟩}:bZ).done=k.st.done from rfl,hd0]at hd';cases hd'
       rw[hob]
     · rfl
    rw[←hk']
    exact ua (List.getElem?_set_self hil) h.sw hr.pk.vs hr.pk.h0 hr.pk.ahd
  · have hsn:=D0 ho h6
    have hnr:NF c.sw (jX k f):=fun g r e=>by
     have:=hn g r e
     show(bu k.st f).st.snd.left<_∨_
     rw[hsn]
     exact this
    rw[Aq (by show 0≤(bu k.st f).st.snd.left;rw[hsn];omega) (by omega) hnr]
    by_cases h2:f.kind=2
    · rw[if_pos h2]
      have hb:oh c i f= !k.st.done:=by unfold oh;rw[cF hi,decide_eq_true he];rfl
      cases hd0:k.st.done with
      |true=>
       rw[hb,hd0,if_neg (by decide),heq,e2]
       have hkr:jX k f={k with st:=(bu k.st f).st}:=by unfold jX;rw[if_neg (by rw[hd0];simp)]
       rw[hkr]
      |false=>
       rw[hb,hd0,if_pos (by decide),bC v3,heq,e2]
       have hkr:jX k f={k with st:=(bu k.st f).st,ib:=k.ib++[f.data]}:=by unfold jX;rw[if_pos ⟨h2,hd0⟩]
       rw[hkr]
       dsimp only
       rw[List.set_set]
       unfold dE
       split<;>rfl
    · rw[if_neg h2,we v3 (by rw[heq];exact hr.nf h6),heq,e2]
      have hkr:jX k f={k with st:=(bu k.st f).st}:=by unfold jX;rw[if_neg (by omega)]
      rw[hkr]
theorem D1{c:NL}(h:VN c)(hc:c.cl=false){f:aS}(hf:aA f=0)(hkk:2≤f.kind∧f.kind≤6)(htk:f.kind=2→ba c.ks+aG f.data≤c.rw.held):VN (gh c f):=by
 unfold gh
 cases hfi:bX f.strm c.ks 0 with
 |none=>exact h
 |some i=>
  obtain⟨k,hi,hid⟩:=dg hfi
  dsimp only
  obtain⟨k',e,hr⟩:=gG h hi hf hid.symm hkk
  obtain⟨v1,v2,v3,v4⟩:=kw h hc hi hr
  split
  · rename_i hk
    split
    · rename_i hb
      rw[bC v3]
      have v:=v4 (by omega)
      have hpk:=v.pk k' (List.mem_of_getElem? v3)
      refine v.upd (k':={k' with ib:=k'.ib++[f.data]}) (sw':=(dL c i f).sw) (rw':=(dL c i f).rw) (ou':=(dL c i f).ou) v3 ?_ rfl (fun e=>e) v.sw v.ss v.sh (Int.le_refl _) (v.nf k' (List.mem_of_getElem? v3)) v.rw v.rs v.ou (fun e=>(v.cl e).1) ?_
      · refine hpk.rcv (w:=k'.st.rcv) (ib:=k'.ib++[f.data]) hpk.vs.rv rfl (fun m hm=> ?_) (fun hd=> ?_)
        · rcases List.mem_append.1 hm with hm|hm
          · exact hpk.ib m hm
          · obtain rfl:=List.mem_singleton.1 hm
            exact(eT hf).1
        · rw[iR,hr.ib]
          exact hr.da hb hk hd
      · rw[cZ v3]
        show ba (dL c i f).ks-aT k'.ib+aT (k'.ib++[f.data])≤(dL c i f).rw.held
        rw[iR,hr.eq]
        show ba (c.ks.set i k')-aT k'.ib+(aT k'.ib+aG f.data)≤c.rw.held
        rw[cZ hi]
        have:=htk hk
        rw[hr.ib]
        omega
    · exact v4 (by omega)
  · exact VN.son v1 v3 v2
theorem Ar{c:NL}(h:VN c)(hc:c.cl=false){f:aS}(hf:aA f=0)(hkk:2≤f.kind∧f.kind≤6):aX (gh c f)≤aX c+1:=by
 unfold gh
 cases hfi:bX f.strm c.ks 0 with
 |none=>exact Nat.le_succ _
 |some i=>
  obtain⟨k,hi,hid⟩:=dg hfi
  dsimp only
  obtain⟨k',e,hr⟩:=gG h hi hf hid.symm hkk
  obtain⟨v1,v2,v3,v4⟩:=kw h hc hi hr
  have hm:=nB hi hr
  split
  · split
    · exact Nat.le_trans (jT v3 _ (Nat.le_refl _)) hm
    · exact hm
  · exact Nat.le_trans (jS v1 v3) hm
theorem VN.awy{c:NL}(h:VN c){x:Int}(hx:0≤x∧x≤2147483648)(hs:c.sd=1):VN {c with aw:=x}:=
 ⟨⟨h.sd,h.sz,h.sw,h.rw,h.ss,h.rs,h.sh,h.la,hx,h.n1,fun e=>(by have e':c.sd=2:=e;omega),h.pg,h.pn,h.cn,h.pk,h.asc,h.ou,h.cl,h.tt⟩,h.nf⟩
theorem D2{c:NL}{f:aS}(h:(f.kind=1)=(f.strm≤c.la)):(f.kind==1&&decide (f.strm≤c.la)||f.kind !=1&&decide (c.la<f.strm))=true:=by
 by_cases a:f.kind=1
 · have b:f.strm≤c.la:=h ▸ a
   simp[a,b]
 · have b:¬f.strm≤c.la:=fun b=>a (h ▸ b)
   simp[a];omega
theorem CH{c:NL}{f:aS}(h:¬ (f.kind=1)=(f.strm≤c.la)):(f.kind==1&&decide (f.strm≤c.la)||f.kind !=1&&decide (c.la<f.strm))=false:=by
 by_cases a:f.kind=1
 · have b:¬f.strm≤c.la:=fun b=>h (propext ⟨fun _=>b,fun _=>a⟩)
   simp[a];omega
 · have b:f.strm≤c.la:=Decidable.byContradiction fun b=>h (propext ⟨fun x=>absurd x a,fun x=>absurd x b⟩)
   simp[a,b]
theorem Fw{f:aS}(hf:aA f=0)(hs:f.strm=0)(hk:f.kind≠7∧f.kind≠8∧f.kind≠9):f.kind=6:=by
 have h1:=ns hf
 unfold bW at h1
 rw[if_neg (by omega)]at h1
 refine Decidable.byContradiction fun h6=> ?_
 rw[if_neg h6,hs]at h1
 cases h1
theorem D3{c:NL}{f:aS}(hk:f.kind=2):lP c f=gbC (gh (dM c f) f):=by
 have e:(dM c f).ks=c.ks:=by unfold dM;split<;>rfl
 unfold lP gh
 rw[e]
 cases bX f.strm c.ks 0 with
 |none=>rfl
 |some i=>
  dsimp only
  rw[if_pos hk]
theorem D4{c:NL}{f:aS}(hk:f.kind≠2)(hs:f.strm≠0):gf c f=gh c f:=by
 unfold gf gh
 rw[if_neg hs]
 cases bX f.strm c.ks 0 with
 |none=>rfl
 |some i=>
  dsimp only
  rw[if_neg hk]
def nF(num:Int)(k:KR):KR:=if num<k.st.id∧k.st.done=false then {k with st:=ml k.st 12 emptyB,ob:=[]}else k
theorem D5{c:NL}(h:VN c)(num:Int):c.ks.map (nF num)=c.ks.map (gv num):=by
 refine List.map_congr_left fun k hk=> ?_
 have hp:=h.pk k hk
 unfold nF gv
 by_cases hcd:k.st.done=false∧num<k.st.id
 · rw[if_pos ⟨hcd.2,hcd.1⟩,if_pos hcd]
   have he:ml k.st 12 emptyB=dq k.st 12 emptyB:=by
    unfold ml
    rw[if_neg]
    rintro(e|e|e)
    · rw[hcd.1]at e;cases e
    · rw[fS.2 hp.vs]at e;cases e
    · exact e (nl (by decide) (by decide))
   rw[he]
   unfold dE
   exact(if_pos (show({k with st:=dq k.st 12 emptyB}:KR).st.done=true from rfl)).symm
 · rw[if_neg (fun e=>hcd ⟨e.2,e.1⟩),if_neg hcd]
theorem VN.erase{c:NL}(h:VN c){i:Nat}{k:KR}(hi:c.ks[i]? =some k):VN {c with ks:=c.ks.eraseIdx i}:=by
 have hsub:(c.ks.eraseIdx i).Sublist c.ks:=List.eraseIdx_sublist ..
 refine⟨⟨h.sd,h.sz,h.sw,h.rw,h.ss,h.rs,h.sh,h.la,h.aw,h.n1,h.n2,h.pg,h.pn,Nat.le_trans (hsub.countP_le) h.cn,fun k hk=>h.pk k (hsub.subset hk),h.asc.sublist (hsub.map _),h.ou,fun e=>⟨(h.cl e).1,?_⟩,?_⟩,fun k hk=>h.nf k (hsub.subset hk)⟩
 · have:=(h.cl e).2
   have h2:cP (c.ks.eraseIdx i)≤cP c.ks:=hsub.countP_le
   show cP (c.ks.eraseIdx i)=0
   omega
 · show ba (c.ks.eraseIdx i)≤c.rw.held
   rw[ku hi]
   have:=h.tt
   have:=dX k.ib
   omega
theorem As{l:List KR}{j:Nat}{k:KR}(g:KR→KR)(h:l[j]? =some k):((l.take j).map g++l.drop j).set j (g k)=(l.take (j+1)).map g++l.drop (j+1):=by
 obtain⟨h1,h2⟩:=List.getElem?_eq_some_iff.1 h
 have hl:((l.take j).map g).length=j:=by rw[List.length_map,List.length_take];omega
 rw[List.set_append_right _ _ (by omega),hl,Nat.sub_self,List.drop_eq_getElem_cons h1,List.set_cons_zero,List.take_add_one,h,List.map_append,List.append_assoc]
 rfl
theorem At{l:List KR}{j:Nat}{k:KR}(g:KR→KR)(h:l[j]? =some k)(hg:g k=k):(l.take j).map g++l.drop j=(l.take (j+1)).map g++l.drop (j+1):=by
 obtain⟨h1,h2⟩:=List.getElem?_eq_some_iff.1 h
 rw[List.drop_eq_getElem_cons h1,List.take_add_one,h,List.map_append,List.append_assoc]
 show _++(l[j]::_)=_++([g k]++_)
 rw[hg,h2]
 rfl
theorem D6{l:List KR}{j:Nat}{k:KR}(g:KR→KR)(h:l[j]? =some k):((l.take j).map g++l.drop j)[j]? =some k:=by
 obtain⟨h1,h2⟩:=List.getElem?_eq_some_iff.1 h
 have hl:((l.take j).map g).length=j:=by rw[List.length_map,List.length_take];omega
 rw[List.getElem?_append_right (by omega),hl,Nat.sub_self,List.getElem?_drop,Nat.add_zero,h]
theorem CI{c:NL}(h:VN c){id sh:Int}{d:ByteArray}{sd:Int}(hs:sd=1∨sd=2)(hf:aA ⟨1,id,sh,d⟩=0):(cU id sd sh c.sz).err=0:=by
 have h1:bW 1 id=true:=ns hf
 have h2:cV 1 sh=true:=mx hf
 have h3:id≤2147483647:=(eT hf).2
 unfold bW at h1
 unfold cV at h2
 rw[if_neg (by decide),if_neg (by decide)]at h1
 rw[if_pos rfl]at h2
 have h1':=of_decide_eq_true h1
 have h2':=of_decide_eq_true h2
 have hz:=h.sz
 unfold cU
 rw[if_neg]
 rintro(e|e|e|e|e)
 · omega
 · omega
 · omega
 · unfold pr at e
   rw[decide_eq_true h2'.1,decide_eq_true h2'.2]at e
   cases e
 · unfold gT at e
   rw[if_neg (by omega)]at e
   exact e rfl
def qX(c:NL)(h:io)(sh:Int):Int:=
 if c.sd≠1∨c.cl=true∨c.aw≠0 then 20 else if 64≤cP c.ks then 22 else if bG h≠0 then bG h else aA (fZ c h sh)
theorem nG{c:NL}(hv:VN c)(h:io)(sh:Int):gV c h sh=qX c h sh:=by
 unfold gV qX
 split
 · rfl
 split
 · rfl
 split
 · rfl
 split
 · rfl
 · rename_i hf
   have hf:aA (fZ c h sh)=0:=Decidable.not_not.1 hf
   rw[CI hv (.inl rfl) hf,hf]
theorem D7{c:NL}(h:VN c){f:aS}(hk:f.kind=1)(hf:aA f=0):gb c f=if c.aw≠0∨64≤cP c.ks then {c with la:=f.strm,ou:=c.ou++[⟨5,f.strm,12,emptyB⟩]}else {c with la:=f.strm,ks:=c.ks++[⟨(cU f.strm 2 f.num c.sz).st,(bK f.data).head.svc,(bK f.data).head.mth,(bK f.data).head.late,(bK f.data).head.metas,[],[]⟩]}:=by
 have h1:(cU f.strm 2 f.num c.sz).err=0:=CI h (d:=f.data) (.inr rfl) (by rw[←hk];exact hf)
 have h2:=DP hf hk
 unfold gb
 by_cases e:c.aw≠0∨64≤cP c.ks
 · rw[if_pos e,if_pos (e.elim .inl fun e=> .inr (.inl e))]
 · rw[if_neg e,if_neg]
   rintro(e1|e1|e1|e1)
   · exact e (.inl e1)
   · exact e (.inr e1)
   · exact e1 h1
   · exact e1 h2
theorem mz:∀ (n i:Nat) (c:NL),eo c (n+1) i=eW (eo c n i) (i+n)
 |0,i,c=>rfl
 |n+1,i,c=>by
  rw[eo,mz n (i+1) (eW c i),eo,Nat.add_right_comm,Nat.add_assoc]
theorem oH:∀ (n i:Nat) (c:NL),(eo c n i).ks.length=c.ks.length
 |0,_,_=>rfl
 |n+1,i,c=>by rw[eo,oH n (i+1),qL]
theorem wg:∀ (n:Nat) (c:NL),VB c→n≤c.ks.length→VB (eo c n 0)∧aX (eo c n 0)≤aX c
 |0,c,h,_=>⟨h,Nat.le_refl _⟩
 |n+1,c,h,hl=>by
  obtain⟨h1,h2⟩:=wg n c h (by omega)
  have hil:n<(eo c n 0).ks.length:=by rw[oH];omega
  have hi:(eo c n 0).ks[n]? =some (eo c n 0).ks[n]:=List.getElem?_eq_getElem hil
  rw[mz,Nat.zero_add]
  exact⟨(h1.son hi).1,Nat.le_trans (jS h1 hi) h2⟩
theorem D8{l:List Int}{n:Int}(h:l.length≤16):(l++[n]).drop (l.length+1-16)=if 16<(l++[n]).length then(l++[n]).drop 1 else l++[n]:=by
 rw[List.length_append,List.length_singleton]
 split
 · rw[show l.length+1-16=1 by omega]
 · rw[show l.length+1-16=0 by omega,List.drop_zero]
end
section
open Go.RowKit
theorem Fx(c:Int)(s t:ByteArray)(h:fc c s=t)(w:World)(hs:s.size≤4611686018427387900):Calls Tryz.prog 115 #[.agg #[.int .i64 c,.string s]] w fun e w'=>e= .returned (.string t)∧Below w.heap.size w w':=by
 subst h
 exact uA c s w hs
theorem GL(c:Int)(s:ByteArray)(n:Int)(h:aP c s=n)(w:World)(hs:s.size≤4611686018427387900):Calls Tryz.prog 114 #[.agg #[.int .i64 c,.string s]] w fun e w'=>e= .returned (.int .i64 n)∧Below w.heap.size w w':=by
 subst h
 exact ec c s w hs
attribute [local irreducible] Calls
theorem Au{A:Nat→Prop}(v:NV)(id:Int)(code:Int)(w:World)(hN:NOk A w v)(hw:fW v)(hv:VN v.c)(hms:aX v.c≤400000000):Calls Tryz.prog 59 #[.agg #[.int .i64 v.c.sd,.int .i64 v.c.nx,.int .i64 v.c.la,.int .i64 v.c.aw,.int .i64 v.c.sz,.int .i64 v.c.sw.size,.int .i64 v.c.sw.left,.int .i64 v.c.sw.held,.int .i64 v.c.rw.size,.int .i64 v.c.rw.left,.int .i64 v.c.rw.held,.slice v.x v.kv.length v.xc,.slice v.o v.c.ou.length v.oc,.slice v.p v.c.pg.length v.pc,.bool v.c.cl],.int .i64 id,.int .i64 code] w fun e w'=> ∃v':NV,v'.c=(lh v.c id code).1∧e= .returned (.tuple #[.agg ⟨NC v'⟩,.int .i64 (lh v.c id code).2])∧OutN A w w' v'∧fW v':=by
 refine ai Tryz.func59 rfl Tryz.ntmps59 J J ?_
 have hz:=(hv.toVB.szl (by omega)).n hN
 have hgd:=(hv.toVB.szl (by omega)).g hN
 have hzk:=hz.ks
 have hol:v.c.ou.length≤400000000:=by have h9:=hms;unfold aX at h9;omega
 obtain⟨o,ho⟩:∃o,bX id v.c.ks 0=o:=⟨_,rfl⟩
 repeat' (first|(refine bx ?_;intro g3)|(refine al ?_;intro g6)|refine cl (fun w hm=>qE v id o w (hN.below hm.below) (by omega) ho) ?_|refine nx ?_)
 cases o with
 |none=>
  have hg:lh v.c id code=(v.c,10):=by unfold lh;rw[ho]
  refine af J J ?_
  repeat' refine nx ?_
  refine rt ?_
  exact fun w1 hm=>⟨v,by rw[hg],by rw[hg];rfl,OutN.same hN hm.below,hw⟩
 |some i=>
  obtain⟨q,hq,_⟩:=dR ho
  obtain⟨u,hu,huk⟩:∃u,v.kv[i]? =some u∧u.k=q:=by rw[hN.eq,List.getElem?_map]at hq;simpa using hq
  subst huk
  have hat:=gB hN.eq hu
  have hum:=List.mem_of_getElem? hu
  have hwu:=hw.k u hum
  have htx:=hgd.tx u hum
  have hfr:=hgd.fr u hum
  have hi:i<v.kv.length:=(List.getElem?_eq_some_iff.1 hu).1
  refine aa rfl (decide_eq_false (show¬ ((i:Nat):Int)<0 by omega)) ?_
  obtain⟨bb,boff,hx,_,_,hrows⟩:=hN.ks (by omega)
  have hrow:w.rangeAt bb (boff+i * 22) (KC u):=hrows i u hu
  have hez:emptyB.size<4294967281:=show(0:Nat)<4294967281 by decide
  obtain⟨r,hr⟩:∃r,aZ u.k.st (⟨5,id,code,emptyB⟩:aS)=r:=⟨_,rfl⟩
  rw[hx]
  repeat' (first|refine vx rfl (ia (m:=22) i hi) ?_|refine vx rfl (rj (cs:=KC u) hrow) ?_|(refine al ?_;intro g9)|(refine al ?_;intro g10)|(refine al ?_;intro g11)|refine cl (fun w hm=>qC u.k.st (⟨5,id,code,emptyB⟩:aS) r hr w htx hez) ?_|refine nx ?_)
  rw[←hx]
  by_cases he:r.err=0
  rotate_left
  · have hg:lh v.c id code=(v.c,r.err):=by unfold lh;rw[ho];dsimp only;rw[hat,hr,if_pos he]
    refine af rfl (by simpa using he) ?_
    repeat' refine nx ?_
    refine rt ?_
    exact fun w1 hm=>⟨v,by rw[hg],by rw[hg];rfl,OutN.same hN hm.below,hw⟩
  have hg:lh v.c id code=({v.c with ks:=v.c.ks.set i ({u with k:={u.k with st:=r.st,ob:=[]},o:=none,oc:=0}:KV).k,ou:=v.c.ou++[(⟨5,id,code,emptyB⟩:aS)]},0):=by unfold lh;rw[ho];dsimp only;rw[hat,hr,if_neg (by rw[he];simp)]
  refine aa rfl (by simpa using he) ?_
  repeat' refine nx ?_
  refine cT [false,true,true,false,true] (fun _=>True) ak (by kernel_rfl) J J (fun _ _=>trivial) ?_
  iterate 3 refine yv ?_
  refine iT [false,true,true,false,true] bd (fun w1 hm=>eB v i ({u with k:={u.k with st:=r.st,ob:=[]},o:=none,oc:=0}:KV) w1 (hN.lt.below hm.below) hw hi hzk ⟨((hN.lt.ok u hum).below hm.below).1,((hN.lt.ok u hum).below hm.below).2.1,bV⟩ ⟨hwu.i,fun _=>rfl,hwu.m,hwu.il,Nat.zero_le _⟩) ?_
  rintro V1 F1 hc1 hw1 hF1
  refine yv ?_
  refine iT [false,false,true,true,false,true] (eS 0 hF1 rfl) (fun w1 hm=>eN V1 (⟨5,id,code,emptyB⟩:aS) w1 (hm.2.get (i:=0) rfl).2.1 hw1 (by rw[hc1];show v.c.ou.length≤2000000000;omega)) ?_
  rintro V2 F2 hc2 hw2 hF2
  refine kU ae 5 J J J J J J J J J J J J (fun w1 hM=>⟨hM.mask [false,false,false,true,true,false,true] rfl,trivial⟩) ?_
  refine vV rfl (ax ae J J J J) J J ?_
  repeat' refine nx ?_
  rw[hg]
  refine rt ?_
  exact fun w1 hm=>⟨V2,by rw[hc2,hc1],rfl,aL (hm.2.get (i:=0) rfl).2.1 hF2 hm.below,hw2⟩
theorem Av{A:Nat→Prop}(v:NV)(id:Int)(tc:Int)(tt:ByteArray)(w:World)(hN:NOk A w v)(hw:fW v)(hv:VN v.c)(hms:aX v.c≤400000000)(htt:tt.size≤4611686018427387900):Calls Tryz.prog 58 #[.agg #[.int .i64 v.c.sd,.int .i64 v.c.nx,.int .i64 v.c.la,.int .i64 v.c.aw,.int .i64 v.c.sz,.int .i64 v.c.sw.size,.int .i64 v.c.sw.left,.int .i64 v.c.sw.held,.int .i64 v.c.rw.size,.int .i64 v.c.rw.left,.int .i64 v.c.rw.held,.slice v.x v.kv.length v.xc,.slice v.o v.c.ou.length v.oc,.slice v.p v.c.pg.length v.pc,.bool v.c.cl],.int .i64 id,.agg #[.int .i64 tc,.string tt]] w fun e w'=> ∃v':NV,v'.c=(lg v.c id tc tt).1∧e= .returned (.tuple #[.agg ⟨NC v'⟩,.int .i64 (lg v.c id tc tt).2])∧OutN A w w' v'∧fW v':=by
 refine ai Tryz.func58 rfl Tryz.ntmps58 J J ?_
 have hz:=(hv.toVB.szl (by omega)).n hN
 have hgd:=(hv.toVB.szl (by omega)).g hN
 have hzk:=hz.ks
 have hol:v.c.ou.length≤400000000:=by have h9:=hms;unfold aX at h9;omega
 obtain⟨o,ho⟩:∃o,bX id v.c.ks 0=o:=⟨_,rfl⟩
 repeat' (first|(refine bx ?_;intro g3)|(refine bx ?_;intro g5)|(refine al ?_;intro g6)|refine cl (fun w hm=>qE v id o w (hN.below hm.below) (by omega) ho) ?_|refine nx ?_)
 cases o with
 |none=>
  have hg:lg v.c id tc tt=(v.c,10):=by unfold lg;rw[ho]
  refine af J J ?_
  repeat' refine nx ?_
  refine rt ?_
  exact fun w1 hm=>⟨v,by rw[hg],by rw[hg];rfl,OutN.same hN hm.below,hw⟩
 |some i=>
  obtain⟨q,hq,_⟩:=dR ho
  obtain⟨u,hu,huk⟩:∃u,v.kv[i]? =some u∧u.k=q:=by rw[hN.eq,List.getElem?_map]at hq;simpa using hq
  subst huk
  have hat:=gB hN.eq hu
  have hum:=List.mem_of_getElem? hu
  have hwu:=hw.k u hum
  have htx:=hgd.tx u hum
  have hfr:=hgd.fr u hum
  have hi:i<v.kv.length:=(List.getElem?_eq_some_iff.1 hu).1
  refine aa rfl (decide_eq_false (show¬ ((i:Nat):Int)<0 by omega)) ?_
  obtain⟨ck,hck⟩:∃x,aP tc tt=x:=⟨_,rfl⟩
  obtain⟨pd,hpd⟩:∃x,fc tc tt=x:=⟨_,rfl⟩
  have hpz:pd.size<4294967281:=by rw[←hpd];exact qS tc tt
  have hob1:u.k.ob.length≤400000000:=by
   have h8:=jk (k:=u.k) (l:=v.c.ks) (by rw[hN.eq];exact List.mem_map_of_mem hum)
   have h9:=hms
   unfold aX at h9
   omega
  have hol2:v.c.ou.length+u.k.ob.length≤1000000000:=by omega
  repeat' (first|refine cl (fun w hm=>GL tc tt ck hck w htt) ?_|refine nx ?_)
  by_cases he:ck=0
  rotate_left
  · have hg:lg v.c id tc tt=(v.c,ck):=by unfold lg;rw[ho];dsimp only;rw[hck,if_pos he]
    refine af rfl (by simpa using he) ?_
    repeat' refine nx ?_
    refine rt ?_
    exact fun w1 hm=>⟨v,by rw[hg],by rw[hg];rfl,OutN.same hN hm.below,hw⟩
  have hg:lg v.c id tc tt=jm v.c i u.k (⟨4,id,0,pd⟩:aS):=by unfold lg;rw[ho];dsimp only;rw[hck,if_neg (by rw[he];simp),hat,hpd]
  refine aa rfl (by simpa using he) ?_
  repeat' refine nx ?_
  refine cT [false,true,true] (fun _=>True) ak (by kernel_rfl) J J (fun _ _=>trivial) ?_
  iterate 4 refine yv ?_
  refine nD rfl (ag J J J J ⟨J,trivial⟩ rfl (by kernel_rfl)) J J (fun w1 hm=>Fx tc tt pd hpd w1 htt) (fun w1 hM=>⟨hM.mask [false,true,true] rfl,trivial⟩) J J ?_
  refine yv ?_
  refine iT [false,true,true] bd (fun w1 hm=>oF v i u (⟨4,id,0,pd⟩:aS) w1 (hN.lt.below hm.below) hw hu hzk htx hfr hpz hol2) ?_
  rintro V1 F1 hc1 hw1 hF1
  iterate 2 refine yv ?_
  refine kU ae 1 J J J J J J J J J J J J (fun w1 hM=>⟨hM.mask [false,false,true,true] rfl,trivial⟩) ?_
  refine vV rfl (ax ae J J J J) J J ?_
  repeat' refine nx ?_
  rw[hg]
  refine rt ?_
  exact fun w1 hm=>⟨V1,hc1,rfl,aL (hm.2.get (i:=0) rfl).2.1 hF1 hm.below,hw1⟩
theorem CJ{A:Nat→Prop}(v:NV)(id:Int)(w:World)(hN:NOk A w v)(hw:fW v)(hv:VN v.c)(hms:aX v.c≤400000000):Calls Tryz.prog 60 #[.agg #[.int .i64 v.c.sd,.int .i64 v.c.nx,.int .i64 v.c.la,.int .i64 v.c.aw,.int .i64 v.c.sz,.int .i64 v.c.sw.size,.int .i64 v.c.sw.left,.int .i64 v.c.sw.held,.int .i64 v.c.rw.size,.int .i64 v.c.rw.left,.int .i64 v.c.rw.held,.slice v.x v.kv.length v.xc,.slice v.o v.c.ou.length v.oc,.slice v.p v.c.pg.length v.pc,.bool v.c.cl],.int .i64 id] w fun e w'=> ∃v':NV,v'.c=(de v.c id).1∧e= .returned (.tuple #[.agg ⟨NC v'⟩,.string (de v.c id).2.1,.bool (de v.c id).2.2])∧OutN A w w' v'∧fW v':=by
 refine ai Tryz.func60 rfl Tryz.ntmps60 J J ?_
 have hz:=(hv.toVB.szl (by omega)).n hN
 have hgd:=(hv.toVB.szl (by omega)).g hN
 have hzk:=hz.ks
 have hol:v.c.ou.length≤400000000:=by have h9:=hms;unfold aX at h9;omega
 obtain⟨o,ho⟩:∃o,bX id v.c.ks 0=o:=⟨_,rfl⟩
 repeat' (first|(refine bx ?_;intro g3)|(refine al ?_;intro g6)|refine cl (fun w hm=>qE v id o w (hN.below hm.below) (by omega) ho) ?_|refine nx ?_)
 cases o with
 |none=>
  have hg:de v.c id=(v.c,emptyB,false):=by unfold de;rw[ho]
  rw[hg]
  repeat' (first|refine vx rfl (pq J J) ?_|refine vx rfl (pj (.slice none 0 0) J J) ?_|refine nx ?_)
  refine af J J ?_
  repeat' refine nx ?_
  refine rt ?_
  exact fun w1 hm=>⟨v,rfl,rfl,OutN.same hN hm.below,hw⟩
 |some i=>
  obtain⟨q,hq,_⟩:=dR ho
  obtain⟨u,hu,huk⟩:∃u,v.kv[i]? =some u∧u.k=q:=by rw[hN.eq,List.getElem?_map]at hq;simpa using hq
  subst huk
  have hat:=gB hN.eq hu
  have hum:=List.mem_of_getElem? hu
  have hwu:=hw.k u hum
  have htx:=hgd.tx u hum
  have hfr:=hgd.fr u hum
  have hi:i<v.kv.length:=(List.getElem?_eq_some_iff.1 hu).1
  obtain⟨bb,boff,hx,_,_,hrows⟩:=hN.ks (by omega)
  have hrow:w.rangeAt bb (boff+i * 22) (KC u):=hrows i u hu
  have hcell:w.cell? ⟨bb,boff+i * 22+20,none⟩=some (.slice u.i u.k.ib.length u.ic):=hrows i u hu 20 _ rfl
  have hng:decide (((i:Nat):Int)<0)=false:=decide_eq_false (by omega)
  rw[hx]
  repeat' (first|refine vx rfl (ia (m:=22) i hi) ?_|refine vx rfl (dd ae (v:= .slice u.i u.k.ib.length u.ic) J J J J J (fun _=>hcell)) ?_|refine nx ?_)
  by_cases hib:u.k.ib=[]
  · have hg:de v.c id=(v.c,emptyB,false):=by unfold de;rw[ho];dsimp only;rw[hat,hib]
    rw[hg,←hx]
    refine af rfl (by rw[hib];simp) ?_
    repeat' refine nx ?_
    refine rt ?_
    exact fun w1 hm=>⟨v,rfl,rfl,OutN.same hN hm.below,hw⟩
  · obtain⟨s,r,hib⟩:∃s r,u.k.ib=s::r:=by cases h:u.k.ib with|nil=>exact absurd h hib|cons s r=>exact⟨s,r,rfl⟩
    have hci:v.c.ks[i]? =some u.k:=by rw[hN.eq,List.getElem?_map,hu];rfl
    have hp:=hv.pk u.k (List.mem_of_getElem? hci)
    have hcs:=dH s
    have hur:=dX r
    have hlk:i<v.c.ks.length:=(List.getElem?_eq_some_iff.1 hci).1
    have hva:VN {v.c with ks:=v.c.ks.set i {u.k with ib:=r}}:=by
     refine hv.upd (k':={u.k with ib:=r}) (sw':=v.c.sw) (rw':=v.c.rw) (ou':=v.c.ou) hci (hp.rcv (w:=u.k.st.rcv) (ib:=r) hp.vs.rv rfl (fun m hm=>hp.ib m (by rw[hib];exact List.mem_cons_of_mem _ hm)) (fun hd=> ?_)) rfl (fun e=>e) hv.sw hv.ss hv.sh (Int.le_refl _) (hv.nf u.k (List.mem_of_getElem? hci)) hv.rw hv.rs hv.ou (fun e=>(hv.cl e).1) ?_
     · have:=hp.un hd
       rw[hib,aT]at this
       omega
     · rw[cZ hci,hib,aT]
       have:=hv.tt
       show ba v.c.ks - (aG s+aT r)+aT r≤v.c.rw.held
       omega
    have hid:u.k.st.id=id:=by obtain⟨k9,h8,h9⟩:=dg ho;rw[hci]at h8;cases h8;exact h9
    refine aa rfl (by show(decide (((i:Nat):Int)<0)||(((u.k.ib.length:Nat):Int)==0))=false;rw[hng,hib,List.length_cons];simp;omega) ?_
    have hO:=(hN.ok u hum)
    obtain⟨b,off,hui,_,_,hir⟩:=hO.2.1 (by rw[hib];exact Nat.succ_pos _)
    have hmsg:w.cell? ⟨b,off+0 * 1,none⟩=some (.string s):=hir 0 s (by rw[hib];rfl) 0 _ rfl
    have hcp0:=hwu.il
    have hcp1:r.length+1≤u.ic:=by rw[hib]at hcp0;exact hcp0
    have hl0:0<u.k.ib.length:=by rw[hib];exact Nat.succ_pos _
    have hil0:u.k.ib.length=r.length+1:=by rw[hib];rfl
    have hmc:aX {v.c with ks:=v.c.ks.set i {u.k with ib:=r}}≤aX v.c:=by rw[←bC hci (fun k=>{k with ib:=r})];exact jT hci _ (Nat.le_refl _)
    have hOl:=hN.lt.ok u hum
    obtain⟨uk,um,umc,ui,uic,uo,uoc⟩:=u
    dsimp only at hui
    subst hui
    dsimp only at hil0 hcp0 hcp1 hib hid hl0
    have hib1:Rws (fun b=>A b∧b<w.heap.size) w 1 sC (some ⟨b,off,none⟩) (s::r):=hib ▸ hOl.2.1
    repeat' (first|refine vx rfl (ia (m:=22) i hi) ?_|refine vx rfl (rj (cs:=KC ⟨uk,um,umc,some ⟨b,off,none⟩,uic,uo,uoc⟩) hrow) ?_|(refine al ?_;intro g8)|refine nx ?_)
    rw[hil0]
    repeat' (first|refine vx rfl (ia (m:=1) 0 (Nat.succ_pos _)) ?_|refine vx rfl (dd ae (v:= .string s) J J J J J (fun _=>hmsg)) ?_|refine vx rfl (dQ ae 1 (r.length+1) J J J J J J J J J J J (by omega) hcp1) ?_|(refine al ?_;intro g8)|refine nx ?_)
    rw[←hx]
    have hun1:uk.st.done=false→aT r≤uk.st.rcv.held:=fun hd=>by
     have h9:=hp.un hd
     rw[hib,aT]at h9
     dsimp only at h9
     omega
    refine aR bd (fun w1 hm=>eB v i (⟨{uk with ib:=r},um,umc,fV (some ⟨b,off,none⟩) uic 1,uic-1,uo,uoc⟩:KV) w1 (hN.lt.below hm.below) hw hi hzk ⟨hOl.1.below hm.below,ld (hib1.below hm.below) hcp1,hOl.2.2.below hm.below⟩ ⟨fun h=>(by unfold fV at h;split at h<;>cases h),hwu.o,hwu.m,(by show r.length≤uic-1;omega),hwu.ol⟩) ?_
    rintro V1 F1 hc1 hw1 hF1
    refine df (p:=V1.c.ks=V1.kv.map (·.k)) (fun w1 hM=>(hM.2.get (i:=0) rfl).2.1.eq) fun heq1=> ?_
    have hl1:V1.kv.length≤400000000:=by
     rw[mw heq1,hc1]
     show(v.c.ks.set i _).length≤_
     rw[List.length_set]
     have h9:=hms
     unfold aX at h9
     omega
    obtain⟨u1,hat1,h1k⟩:=yb (V:=V1) (i:=i) (k:={uk with ib:=r}) heq1 (by rw[hc1];exact List.getElem?_set_self hlk)
    repeat' refine nx ?_
    refine aR (eS 0 hF1 rfl) (fun w1 hm=>vX V1 i u1 w1 (hm.2.get (i:=0) rfl).2.1 hw1 hat1 (by rw[h1k];exact hp.vs.rv) (by rw[h1k];exact hun1) (by omega) (by rw[hc1];show v.c.ou.length≤_;omega)) ?_
    rintro V2 F2 hc2 hw2 hF2
    have hgk:=VN.gbK hva (i:=i) (k:={uk with ib:=r}) (List.getElem?_set_self hlk)
    have hv2:VN V2.c∧aX V2.c≤aX v.c+1:=by
     rw[hc2,h1k,hc1]
     split
     · exact⟨hva,Nat.le_succ_of_le hmc⟩
     · rename_i hd
       exact⟨(hgk (eq_false_of_ne_true hd)).1,Nat.le_trans (vM (k:={uk with ib:=r}) (List.getElem?_set_self hlk) _) (Nat.succ_le_succ hmc)⟩
    have hg:de v.c id=(gbC V2.c,s,true):=by
     unfold de
     rw[ho]
     dsimp only
     rw[hat]
     dsimp only
     rw[hib]
     dsimp only
     rw[hc2,h1k,hc1,bC hci]
     dsimp only
     rw[hid]
    refine df (p:=V2.c.ks=V2.kv.map (·.k)) (fun w1 hM=>(hM.2.get (i:=0) rfl).2.1.eq) fun heq2=> ?_
    have hm2:=hv2.2
    have hl2:V2.kv.length≤400000001∧V2.c.ou.length≤400000001:=by
     rw[mw heq2]
     unfold aX at hm2 hms
     omega
    repeat' refine nx ?_
    refine aR (eS 0 hF2 rfl) (fun w1 hm=>my V2 w1 (hm.2.get (i:=0) rfl).2.1 hw2 hv2.1.rw hv2.1.tt (by omega) (by omega)) ?_
    rintro V3 F3 hc3 hw3 hF3
    repeat' refine nx ?_
    rw[hg]
    refine rt ?_
    exact fun w1 hm=>⟨V3,hc3,rfl,aL (hm.2.get (i:=0) rfl).2.1 hF3 hm.below,hw3⟩
end
section
open Go.RowKit
theorem GM(s t:bZ)(h:ml s 12 emptyB=t)(w:World)(htx:s.text.size≤4611686018427387900):Calls Tryz.prog 177 #[.agg #[.int .i64 s.id,.int .i64 s.side,.int .i64 s.shape,.int .i64 s.sent,.int .i64 s.got,.bool s.se,.bool s.ge,.bool s.done,.int .i64 s.code,.string s.text,.int .i64 s.snd.size,.int .i64 s.snd.left,.int .i64 s.snd.held,.int .i64 s.rcv.size,.int .i64 s.rcv.left,.int .i64 s.rcv.held],.agg #[.int .i64 12,.string ⟨#[]⟩]] w fun e w'=>e= .returned (.agg ⟨tC t⟩)∧Below w.heap.size w w':=by
 subst h
 exact BH s.id s.side s.shape s.sent s.got s.se s.ge s.done s.code s.text s.snd.size s.snd.left s.snd.held s.rcv.size s.rcv.left s.rcv.held 12 ⟨#[]⟩ w htx (by decide)
structure US where
 j:Nat
 V:NV
 F:Nat→Prop
attribute [local irreducible] Calls
theorem Aw{A:Nat→Prop}(v:NV)(i:Nat)(u:KV)(w:World)(hN:NOk A w v)(hw:fW v)(hu:v.kv[i]? =some u)(hzk:v.kv.length≤606626243774)(htx:u.k.st.text.size≤4611686018427387900)(hol:v.c.ou.length≤1000000000):Calls Tryz.prog 176 #[.agg #[.int .i64 v.c.sd,.int .i64 v.c.nx,.int .i64 v.c.la,.int .i64 v.c.aw,.int .i64 v.c.sz,.int .i64 v.c.sw.size,.int .i64 v.c.sw.left,.int .i64 v.c.sw.held,.int .i64 v.c.rw.size,.int .i64 v.c.rw.left,.int .i64 v.c.rw.held,.slice v.x v.kv.length v.xc,.slice v.o v.c.ou.length v.oc,.slice v.p v.c.pg.length v.pc,.bool v.c.cl],.int .i64 ((i:Nat):Int)] w fun e w'=> ∃v':NV,v'.c=sY v.c i u.k∧e= .returned (.agg ⟨NC v'⟩)∧OutN A w w' v'∧fW v':=by
 refine ai Tryz.func176 rfl Tryz.ntmps176 J J ?_
 have hum:=List.mem_of_getElem? hu
 have hwu:=hw.k u hum
 have hi:i<v.kv.length:=(List.getElem?_eq_some_iff.1 hu).1
 obtain⟨bb,boff,hx,_,_,hrows⟩:=hN.ks (by omega)
 have hrow:w.rangeAt bb (boff+i * 22) (KC u):=hrows i u hu
 have hez:emptyB.size<4294967281:=show(0:Nat)<4294967281 by decide
 obtain⟨r,hr⟩:∃r,aZ u.k.st (iV u.k)=r:=⟨_,rfl⟩
 rw[hx]
 repeat' (first|refine vx rfl (ia (m:=22) i hi) ?_|refine vx rfl (rj (cs:=KC u) hrow) ?_|(refine bx ?_;intro g2)|(refine al ?_;intro g4)|(refine al ?_;intro g5)|(refine al ?_;intro g6)|(refine al ?_;intro g7)|refine cl (fun w hm=>qC u.k.st (iV u.k) r hr w htx hez) ?_|refine nx ?_)
 rw[←hx]
 refine cT [false,true,true,false,true] (fun _=>True) ak (by kernel_rfl) J J (fun _ _=>trivial) ?_
 iterate 3 refine yv ?_
 refine iT [false,true,true,false,true] bd (fun w1 hm=>eB v i ({u with k:={u.k with st:=r.st,ob:=[]},o:=none,oc:=0}:KV) w1 (hN.lt.below hm.below) hw hi hzk ⟨((hN.lt.ok u hum).below hm.below).1,((hN.lt.ok u hum).below hm.below).2.1,bV⟩ ⟨hwu.i,fun _=>rfl,hwu.m,hwu.il,Nat.zero_le _⟩) ?_
 rintro V1 F1 hc1 hw1 hF1
 refine yv ?_
 refine iT [false,false,true,true,false,true] (eS 0 hF1 rfl) (fun w1 hm=>eN V1 (iV u.k) w1 (hm.2.get (i:=0) rfl).2.1 hw1 (by rw[hc1];show v.c.ou.length≤2000000000;omega)) ?_
 rintro V2 F2 hc2 hw2 hF2
 refine lG ae 5 J J J J J J J J J J J J ?_
 repeat' refine nx ?_
 refine rt ?_
 exact fun w1 hm=>⟨V2,by rw[hc2,hc1];unfold sY;rw[hr],rfl,aL (hm.2.get (i:=0) rfl).2.1 hF2 hm.below,hw2⟩
theorem oI{A:Nat→Prop}(v:NV)(num:Int)(w:World)(hN:NOk A w v)(hw:fW v)(hv:VN v.c)(hms:aX v.c≤400000000):Calls Tryz.prog 124 #[.agg #[.int .i64 v.c.sd,.int .i64 v.c.nx,.int .i64 v.c.la,.int .i64 v.c.aw,.int .i64 v.c.sz,.int .i64 v.c.sw.size,.int .i64 v.c.sw.left,.int .i64 v.c.sw.held,.int .i64 v.c.rw.size,.int .i64 v.c.rw.left,.int .i64 v.c.rw.held,.slice v.x v.kv.length v.xc,.slice v.o v.c.ou.length v.oc,.slice v.p v.c.pg.length v.pc,.bool v.c.cl],.int .i64 num] w fun e w'=> ∃v':NV,v'.c=oe v.c num∧e= .returned (.agg ⟨NC v'⟩)∧OutN A w w' v'∧fW v':=by
 refine ai Tryz.func124 rfl Tryz.ntmps124 J J ?_
 have hz:=(hv.toVB.szl (by omega)).n hN
 have hgd:=(hv.toVB.szl (by omega)).g hN
 have hzk:=hz.ks
 have hol:v.c.ou.length≤400000000:=by have h9:=hms;unfold aX at h9;omega
 repeat' (first|(refine bx ?_;intro g2)|(refine al ?_;intro g4)|refine nx ?_)
 refine⟨fun a w1 hS hM=> ?_⟩
 obtain⟨F0,hF0⟩:∃F0:Nat→Prop,F0=fun b=>((A b∧b<w.heap.size)∨w1.heap.size≤b)∧b<w1.heap.size:=⟨_,rfl⟩
 have hM1:=(nk hM hN).perm (List.perm_middle (l₁:=[_,_]) (l₂:=[])).symm
 rw[←hF0]at hM1
 refine SC.run (M:=[.cl g4 28 [.int .i64 0,.int .i64 0,.int .i64 0,.int .i64 0,.int .i64 0,.int .i64 0,.int .i64 0,.int .i64 0,.int .i64 0,.int .i64 0,.int .i64 0,.slice none 0 0,.slice none 0 0,.slice none 0 0,.bool false],.cl g2 28 [.int .i64 (⟨0,v,F0⟩:US).V.c.sd,.int .i64 (⟨0,v,F0⟩:US).V.c.nx,.int .i64 (⟨0,v,F0⟩:US).V.c.la,.int .i64 (⟨0,v,F0⟩:US).V.c.aw,.int .i64 (⟨0,v,F0⟩:US).V.c.sz,.int .i64 (⟨0,v,F0⟩:US).V.c.sw.size,.int .i64 (⟨0,v,F0⟩:US).V.c.sw.left,.int .i64 (⟨0,v,F0⟩:US).V.c.sw.held,.int .i64 (⟨0,v,F0⟩:US).V.c.rw.size,.int .i64 (⟨0,v,F0⟩:US).V.c.rw.left,.int .i64 (⟨0,v,F0⟩:US).V.c.rw.held,.slice (⟨0,v,F0⟩:US).V.x (⟨0,v,F0⟩:US).V.kv.length (⟨0,v,F0⟩:US).V.xc,.slice (⟨0,v,F0⟩:US).V.o (⟨0,v,F0⟩:US).V.c.ou.length (⟨0,v,F0⟩:US).V.oc,.slice (⟨0,v,F0⟩:US).V.p (⟨0,v,F0⟩:US).V.c.pg.length (⟨0,v,F0⟩:US).V.pc,.bool (⟨0,v,F0⟩:US).V.c.cl],.rep (⟨0,v,F0⟩:US).F (fun w=>NOk (⟨0,v,F0⟩:US).F w (⟨0,v,F0⟩:US).V)]) ?_ a w1 hS hM1
 refine bT (σ:=US) (fun q=>q.j≤v.c.ks.length∧q.V.c={v.c with ks:=(v.c.ks.take q.j).map (nF num)++v.c.ks.drop q.j}∧fW q.V∧ ∀b,q.F b→A b∨w.heap.size≤b) (fun q=>[(5,[],.int .i64 ((q.j:Nat):Int)),(4,[],.pointer (some ⟨g4,0,none⟩)),(2,[],.pointer (some ⟨g2,0,none⟩)),(1,[],.int .i64 num)]) (fun q=>[.cl g4 28 [.int .i64 0,.int .i64 0,.int .i64 0,.int .i64 0,.int .i64 0,.int .i64 0,.int .i64 0,.int .i64 0,.int .i64 0,.int .i64 0,.int .i64 0,.slice none 0 0,.slice none 0 0,.slice none 0 0,.bool false],.cl g2 28 [.int .i64 q.V.c.sd,.int .i64 q.V.c.nx,.int .i64 q.V.c.la,.int .i64 q.V.c.aw,.int .i64 q.V.c.sz,.int .i64 q.V.c.sw.size,.int .i64 q.V.c.sw.left,.int .i64 q.V.c.sw.held,.int .i64 q.V.c.rw.size,.int .i64 q.V.c.rw.left,.int .i64 q.V.c.rw.held,.slice q.V.x q.V.kv.length q.V.xc,.slice q.V.o q.V.c.ou.length q.V.oc,.slice q.V.p q.V.c.pg.length q.V.pc,.bool q.V.c.cl],.rep q.F (fun w=>NOk q.F w q.V)]) (fun q=>v.c.ks.length-q.j) ⟨0,v,F0⟩ [] ⟨Nat.zero_le _,rfl,hw,fun b hb=>by rw[hF0]at hb;exact hb.1.elim (fun h=> .inl h.1) (fun h=> .inr (Nat.le_trans hM.1.size h))⟩ ⟨J,J,J,J,trivial⟩ rfl ?_
 rintro⟨j,V,F⟩ ⟨hj0,hc,hwf,hF⟩
 dsimp only at hj0 hc hwf hF ⊢
 refine kj (p:=V.c.ks=V.kv.map (·.k)) (fun w1 hM=>(hM.2.get (i:=2) rfl).2.1.eq) fun heqV=> ?_
 have hlv:V.kv.length=v.c.ks.length:=by
  rw[mw heqV,hc]
  dsimp only
  rw[List.length_append,List.length_map,List.length_take,List.length_drop]
  omega
 have hl9:v.c.ks.length≤400000000:=by have h9:=hms;unfold aX at h9;omega
 by_cases hjl:j<v.c.ks.length
 · have hjk:j<V.kv.length:=by omega
   obtain⟨k,hk⟩:∃k,v.c.ks[j]? =some k:=⟨v.c.ks[j],List.getElem?_eq_getElem hjl⟩
   obtain⟨u,hu,huk⟩:=yb (V:=V) (i:=j) (k:=k) heqV (by rw[hc];exact D6 _ hk)
   subst huk
   have hp:=hv.pk u.k (List.mem_of_getElem? hk)
   have htx:u.k.st.text.size≤4611686018427387900:=by
    cases hd:u.k.st.done with
    |true=>have:=qF (hp.vs.dn hd).2.2;omega
    |false=>have:=(hp.vs.nd hd).2.2.2;omega
   have hwu:=hwf.k u (List.mem_of_getElem? hu)
   refine kj (p:= ∃b off,V.x=some ⟨b,off,none⟩∧ ∀w,NOk F w V→w.rangeAt b (off+j * 22) (KC u)) (fun w1 hM=> ?_) ?_
   · obtain⟨b,off,hx,hh⟩:=tA (hM.2.get (i:=2) rfl).2.1.ks (show 0<V.kv.length by omega)
     exact⟨b,off,hx,fun w2 h2=>hh w2 h2.ks j u hu⟩
   rintro⟨bl,ol,hlx,hrw⟩
   rw[hlx]
   repeat' refine nx ?_
   refine af rfl (show decide (((j:Nat):Int)<((V.kv.length:Nat):Int))=true from decide_eq_true (by omega)) ?_
   repeat' (first|refine vx rfl (ia (m:=22) j hjk) ?_|refine vx rfl (tu ae 2 (cs:=KC u) J J J J J J (fun _ w h=>hrw w h)) ?_|(refine al ?_;intro g6)|refine nx ?_)
   rw[←hlx]
   by_cases hcd:num<u.k.st.id∧u.k.st.done=false
   · obtain⟨t,ht⟩:∃t,ml u.k.st 12 emptyB=t:=⟨_,rfl⟩
     have hre:nF num u.k={u.k with st:=t,ob:=[]}:=by unfold nF;rw[if_pos hcd,ht]
     refine af rfl (by rw[hcd.2];simp;exact hcd.1) ?_
     repeat' (first|refine cl (fun w hm=>GM u.k.st t ht w htx) ?_|refine nx ?_)
     refine aR (eS 3 hF rfl) (fun w1 hm=>eB V j ({u with k:={u.k with st:=t,ob:=[]},o:=none,oc:=0}:KV) w1 (hm.2.get (i:=3) rfl).2.1 hwf hjk (by omega) ⟨((hm.2.get (i:=3) rfl).2.1.ok u (List.mem_of_getElem? hu)).1,((hm.2.get (i:=3) rfl).2.1.ok u (List.mem_of_getElem? hu)).2.1,bV⟩ ⟨hwu.i,fun _=>rfl,hwu.m,hwu.il,Nat.zero_le _⟩) ?_
     rintro V1 F1 hc1 hw1 hF1
     repeat' (first|refine vx rfl (bm J J J J J (by omega)) ?_|refine nx ?_)
     refine gE (M':=[.cl g4 28 [.int .i64 0,.int .i64 0,.int .i64 0,.int .i64 0,.int .i64 0,.int .i64 0,.int .i64 0,.int .i64 0,.int .i64 0,.int .i64 0,.int .i64 0,.slice none 0 0,.slice none 0 0,.slice none 0 0,.bool false],.cl g2 28 [.int .i64 (⟨j+1,V1,F1⟩:US).V.c.sd,.int .i64 (⟨j+1,V1,F1⟩:US).V.c.nx,.int .i64 (⟨j+1,V1,F1⟩:US).V.c.la,.int .i64 (⟨j+1,V1,F1⟩:US).V.c.aw,.int .i64 (⟨j+1,V1,F1⟩:US).V.c.sz,.int .i64 (⟨j+1,V1,F1⟩:US).V.c.sw.size,.int .i64 (⟨j+1,V1,F1⟩:US).V.c.sw.left,.int .i64 (⟨j+1,V1,F1⟩:US).V.c.sw.held,.int .i64 (⟨j+1,V1,F1⟩:US).V.c.rw.size,.int .i64 (⟨j+1,V1,F1⟩:US).V.c.rw.left,.int .i64 (⟨j+1,V1,F1⟩:US).V.c.rw.held,.slice (⟨j+1,V1,F1⟩:US).V.x (⟨j+1,V1,F1⟩:US).V.kv.length (⟨j+1,V1,F1⟩:US).V.xc,.slice (⟨j+1,V1,F1⟩:US).V.o (⟨j+1,V1,F1⟩:US).V.c.ou.length (⟨j+1,V1,F1⟩:US).V.oc,.slice (⟨j+1,V1,F1⟩:US).V.p (⟨j+1,V1,F1⟩:US).V.c.pg.length (⟨j+1,V1,F1⟩:US).V.pc,.bool (⟨j+1,V1,F1⟩:US).V.c.cl],.rep (⟨j+1,V1,F1⟩:US).F (fun w=>NOk (⟨j+1,V1,F1⟩:US).F w (⟨j+1,V1,F1⟩:US).V)]) (fun w1 hM=>(hM.mask [true,false,true,true,false] rfl).perm (List.perm_middle (l₁:=[_,_]) (l₂:=[])).symm) ?_
     refine aY (⟨j+1,V1,F1⟩:US) [] ⟨hjl,?_,hw1,hF1⟩ (show v.c.ks.length - (j+1)<v.c.ks.length-j by omega) ⟨J,J,J,J,trivial⟩ rfl
     dsimp only
     rw[hc1,hc]
     dsimp only
     rw[←As (nF num) hk,hre]
   · have hre:nF num u.k=u.k:=by unfold nF;rw[if_neg hcd]
     refine aa rfl (by
      cases h2:u.k.st.done with
      |true=>simp
      |false=>simp;exact Int.not_lt.1 fun h1=>hcd ⟨h1,h2⟩) ?_
     repeat' (first|refine vx rfl (bm J J J J J (by omega)) ?_|refine nx ?_)
     refine aY (⟨j+1,V,F⟩:US) [false,true,true,true] ⟨hjl,?_,hwf,hF⟩ (show v.c.ks.length - (j+1)<v.c.ks.length-j by omega) ⟨J,J,J,J,trivial⟩ rfl
     dsimp only
     rw[hc,At (nF num) hk hre]
 · have hjl':j=v.c.ks.length:=by omega
   repeat' refine nx ?_
   refine aa rfl (show decide (((j:Nat):Int)<((V.kv.length:Nat):Int))=false from decide_eq_false (by omega)) ?_
   repeat' refine nx ?_
   refine rt ?_
   refine fun w1 hm=>⟨V,?_,rfl,aL (hm.2.get (i:=2) rfl).2.1 hF hm.below,hwf⟩
   rw[hc,hjl',List.take_length,List.drop_length,List.append_nil,D5 hv]
   rfl
theorem jY{A:Nat→Prop}(v:NV)(w:World)(hN:NOk A w v)(hw:fW v)(hv:VN v.c)(hms:aX v.c≤400000000):Calls Tryz.prog 65 #[.agg #[.int .i64 v.c.sd,.int .i64 v.c.nx,.int .i64 v.c.la,.int .i64 v.c.aw,.int .i64 v.c.sz,.int .i64 v.c.sw.size,.int .i64 v.c.sw.left,.int .i64 v.c.sw.held,.int .i64 v.c.rw.size,.int .i64 v.c.rw.left,.int .i64 v.c.rw.held,.slice v.x v.kv.length v.xc,.slice v.o v.c.ou.length v.oc,.slice v.p v.c.pg.length v.pc,.bool v.c.cl]] w fun e w'=> ∃v':NV,v'.c=iL v.c∧e= .returned (.agg ⟨NC v'⟩)∧OutN A w w' v'∧fW v':=by
 refine ai Tryz.func65 rfl Tryz.ntmps65 J J ?_
 repeat' (first|(refine bx ?_;intro g1)|(refine al ?_;intro g2)|refine nx ?_)
 refine aR bd (fun w1 hm=>oI v 0 w1 (hN.lt.below hm.below) hw hv hms) ?_
 rintro V1 F1 hc1 hw1 hF1
 repeat' refine nx ?_
 refine rt ?_
 exact fun w1 hm=>⟨⟨{V1.c with cl:=true,ou:=[]},V1.x,V1.xc,V1.kv,none,0,V1.p,V1.pc⟩,by rw[hc1];rfl,rfl,aL (F:=F1) ⟨(hm.2.get (i:=0) rfl).2.1.ks,bV,(hm.2.get (i:=0) rfl).2.1.pg,(hm.2.get (i:=0) rfl).2.1.eq,(hm.2.get (i:=0) rfl).2.1.ok⟩ hF1 hm.below,⟨hw1.x,fun _=>rfl,hw1.p,hw1.xl,Nat.zero_le _,hw1.pl,hw1.k⟩⟩
end
end Go.Proofs.YthiocbcokfondaaGreatDoor.Y
