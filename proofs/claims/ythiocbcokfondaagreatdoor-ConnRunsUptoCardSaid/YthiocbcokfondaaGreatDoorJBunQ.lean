import Derived.Test.YthiocbcokfondaaGreatDoorJBunP
set_option maxRecDepth 100000
set_option maxHeartbeats 32000000
namespace Go.Proofs.YthiocbcokfondaaGreatDoor.Y
section
structure Fj(c:NL)(i:Nat)(k:KR)(f:aS)(k':KR)(e:List aS):Prop where
 eq:dL c i f={c with ks:=c.ks.set i k',ou:=c.ou++e}
 pk:PK c.sd c.sz c.la k'
 id:k'.st.id=k.st.id
 dn:k.st.done=true→k'=k
 ib:k'.ib=k.ib
 nf:f.kind≠6→NF c.sw k'
 fr:∀x∈e,aA x=0∧x.kind=5
 da:oh c i f=true→f.kind=2→k'.st.done=false→aT k.ib+aG f.data≤k'.st.rcv.held
 ok:(bu k.st f).err=0→e=[]∧k'=dE {k with st:=(bu k.st f).st}
 no:(bu k.st f).err≠0→e=[iV k]∧k'={k with st:=dq k.st 11 ⟨#[]⟩,ob:=[]}
theorem gG{c:NL}(h:VN c){i:Nat}{k:KR}(hi:c.ks[i]? =some k){f:aS}(hf:aA f=0)(hid:f.strm=k.st.id)(hkk:2≤f.kind∧f.kind≤6):∃k' e,Fj c i k f k' e:=by
 have hp:=h.pk k (List.mem_of_getElem? hi)
 have hn:=h.nf k (List.mem_of_getElem? hi)
 by_cases he:(bu k.st f).err=0
 · have ho:=vG he
   have hkp:=ho.kept
   have hvs:=vH ho
   refine⟨dE {k with st:=(bu k.st f).st},[],?_⟩
   have heq:dL c i f={c with ks:=c.ks.set i (dE {k with st:=(bu k.st f).st}),ou:=c.ou++[]}:=by
    unfold dL
    rw[cF hi,if_neg (by rw[he];simp),bC hi,List.append_nil]
   cases hd:(bu k.st f).st.done with
   |true=>
    have hs:dE {k with st:=(bu k.st f).st}={k with st:=(bu k.st f).st,ob:=[]}:=by unfold dE;exact if_pos hd
    rw[hs]at heq ⊢
    refine⟨heq,⟨hvs,hkp.sd.trans hp.sd,hkp.sz.trans hp.z1,hkp.rz.trans hp.z2,hkp.hd.trans hp.h0,hp.he,hp.ib,by show(bu k.st f).st.id≤_;rw[hkp.id];exact hp.la,fun _=>rfl,(fun e=>by rw[show({k with st:=(bu k.st f).st,ob:=[]}:KR).st.done=true from hd]at e;cases e),(fun e=>by rw[show({k with st:=(bu k.st f).st,ob:=[]}:KR).st.done=true from hd]at e;cases e),fun _ h=>by cases h⟩,hkp.id,fun e=> ?_,rfl,(fun _ f r e=>by cases e),(fun _ h=>by cases h),(fun _ _ e=>by rw[show({k with st:=(bu k.st f).st,ob:=[]}:KR).st.done=true from hd]at e;cases e),fun _=>⟨rfl,hs.symm⟩,fun e=>absurd he e⟩
    rw[ho.keepDone e,←hp.dn e]
   |false=>
    have hs:dE {k with st:=(bu k.st f).st}={k with st:=(bu k.st f).st}:=by unfold dE;exact if_neg (by show¬ (bu k.st f).st.done=true;rw[hd];simp)
    have hd0:k.st.done=false:=by rw[← (ho.more hd).done];exact hd
    have hrc:k.st.rcv.held≤(bu k.st f).st.rcv.held∧(f.kind=2→(bu k.st f).st.rcv.held=k.st.rcv.held+aG f.data)∧(f.kind≠6→(bu k.st f).st.snd=k.st.snd):=by
     have h9:=ho.h
     generalize (bu k.st f).st=t at *
     have hc:=dH f.data
     cases h9 with
     |old hx=>exact absurd hx (by rw[hd0];simp)
     |data=>exact⟨by show k.st.rcv.held≤k.st.rcv.held+aG f.data;omega,fun _=>rfl,fun _=>rfl⟩
     |fin hd hk=>exact⟨Int.le_refl _,fun e=>by omega,fun _=>rfl⟩
     |stat hd hk=>exact⟨Int.le_refl _,fun e=>by omega,fun _=>rfl⟩
     |reset hd hk=>exact⟨Int.le_refl _,fun e=>by omega,fun _=>rfl⟩
     |win hd hk=>exact⟨Int.le_refl _,fun e=>by omega,fun e=>absurd hk e⟩
    rw[hs]at heq ⊢
    have hun:=hp.un hd0
    refine⟨heq,⟨hvs,hkp.sd.trans hp.sd,hkp.sz.trans hp.z1,hkp.rz.trans hp.z2,hkp.hd.trans hp.h0,hp.he,hp.ib,by show(bu k.st f).st.id≤_;rw[hkp.id];exact hp.la,(fun e=>by rw[show({k with st:=(bu k.st f).st}:KR).st.done=false from hd]at e;cases e),fun _=>(by show aT k.ib≤(bu k.st f).st.rcv.held;omega),fun _=> ?_,hp.kd⟩,hkp.id,(fun e=>by rw[hd0]at e;cases e),rfl,fun h6 g r e=> ?_,(fun _ h=>by cases h),fun _ h2 _=> ?_,fun _=>⟨rfl,hs.symm⟩,fun e=>absurd he e⟩
    · exact nv (s:=k.st) (nw hp.ahd) (ho.more hd) (hkp.hd.trans hp.h0) hp.ahd
    · show(bu k.st f).st.snd.left<_∨_
      rw[hrc.2.2 h6]
      exact hn g r e
    · show aT k.ib+aG f.data≤(bu k.st f).st.rcv.held
      rw[hrc.2.1 h2]
      omega
 · have hd0:k.st.done=false:=eq_false_of_ne_true fun e=>he (by rw[qI ⟨fS.2 hp.vs,hf,hid,hkk,.old e⟩])
   have hid':=hp.vs.id
   have hfr:aA (iV k)=0:=G9 hid'.1 hid'.2 (by decide) (by decide)
   have hso:SndOk k.st (iV k) (dq k.st 11 ⟨#[]⟩):=⟨fS.2 hp.vs,hfr,rfl,hd0,.reset rfl⟩
   have hse:=jR hso
   refine⟨{k with st:=dq k.st 11 ⟨#[]⟩,ob:=[]},[iV k],?_,⟨iQ hso,hp.sd,hp.z1,hp.z2,hp.h0,hp.he,hp.ib,hp.la,fun _=>rfl,(fun e=>by cases e),(fun e=>by cases e),fun _ h=>by cases h⟩,rfl,(fun e=>by rw[hd0]at e;cases e),rfl,(fun _ f r e=>by cases e),fun x hx=> ?_,fun hb=> ?_,fun e=>absurd e he,fun _=>⟨rfl,rfl⟩⟩
   · unfold dL
     rw[cF hi,if_pos he,bC hi,hse]
     dsimp only
     rw[if_pos (show(0:Int)=0 from rfl)]
     rfl
   · obtain rfl:=List.mem_singleton.1 hx
     exact⟨hfr,rfl⟩
   · unfold oh at hb
     rw[cF hi]at hb
     simp only[Bool.and_eq_true,decide_eq_true_eq]at hb
     exact absurd hb.1 he
theorem kw{c:NL}(h:VN c)(hc:c.cl=false){i:Nat}{k k':KR}(hi:c.ks[i]? =some k){f:aS}{e:List aS}(hr:Fj c i k f k' e):VB (dL c i f)∧(∀j x,j≠i→(dL c i f).ks[j]? =some x→NF (dL c i f).sw x)∧(dL c i f).ks[i]? =some k'∧(f.kind≠6→VN (dL c i f)):=by
 have hil:=(List.getElem?_eq_some_iff.1 hi).1
 have hb:VB (dL c i f):=by
  rw[hr.eq]
  refine h.toVB.upd (k':=k') (sw':=c.sw) (rw':=c.rw) hi hr.pk hr.id (fun hd=>by rw[hr.dn hd];exact hd) h.sw h.ss h.sh h.rw h.rs (fun x hx=> ?_) (fun e=> ?_) ?_
  · rcases List.mem_append.1 hx with hx|hx
    · exact h.ou x hx
    · exact(hr.fr x hx).1
  · rw[hc]at e;cases e
  · rw[cZ hi,hr.ib]
    have:=h.tt
    show ba c.ks-aT k.ib+aT k.ib≤c.rw.held
    omega
 have hj:∀j x,j≠i→(dL c i f).ks[j]? =some x→NF (dL c i f).sw x:=fun j x hj hx=>by
  rw[hr.eq]at hx ⊢
  have hx':(c.ks.set i k')[j]? =some x:=hx
  rw[List.getElem?_set_ne (fun e=>hj e.symm)]at hx'
  exact h.nf x (List.mem_of_getElem? hx')
 have hki:(dL c i f).ks[i]? =some k':=by
  rw[hr.eq]
  exact List.getElem?_set_self hil
 refine⟨hb,hj,hki,fun h6=>⟨hb,fun x hx=> ?_⟩⟩
 obtain⟨j,hjx⟩:=List.getElem?_of_mem hx
 by_cases e:j=i
 · subst e
   rw[hki]at hjx
   obtain rfl:=Option.some.inj hjx
   rw[hr.eq]
   exact hr.nf h6
 · exact hj j x e hjx
theorem oC{c:NL}(h:VN c){f:aS}(hl:aG f.data≤c.rw.left):dM c f={c with rw:=⟨c.rw.size,c.rw.left-aG f.data,c.rw.held+aG f.data⟩}∧VN (dM c f):=by
 have hp:=dH f.data
 have ha:=qG h.rw (show 0≤aG f.data by omega) hl
 have e:dM c f={c with rw:=⟨c.rw.size,c.rw.left-aG f.data,c.rw.held+aG f.data⟩}:=by
  unfold dM
  rw[ha,if_pos rfl]
 refine⟨e,?_⟩
 rw[e]
 exact⟨⟨h.sd,h.sz,h.sw,tV h.rw (by omega) hl,h.ss,h.rs,h.sh,h.la,h.aw,h.n1,h.n2,h.pg,h.pn,h.cn,h.pk,h.asc,h.ou,h.cl,by have:=h.tt;show ba c.ks≤c.rw.held+aG f.data;omega⟩,h.nf⟩
theorem VN.data{c:NL}(h:VN c)(hc:c.cl=false){f:aS}(hf:aA f=0)(hk:f.kind=2)(hl:aG f.data≤c.rw.left):VN (lP c f):=by
 obtain⟨e1,h1⟩:=oC h hl
 have hks:(dM c f).ks=c.ks:=by rw[e1]
 have hcl:(dM c f).cl=false:=by rw[e1];exact hc
 unfold lP
 refine VN.gbC ?_
 cases hfi:bX f.strm c.ks 0 with
 |none=>exact h1
 |some i=>
  obtain⟨k,hi,hid⟩:=dg hfi
  dsimp only
  have hi1:(dM c f).ks[i]? =some k:=by rw[hks];exact hi
  obtain⟨k',e,hr⟩:=gG h1 hi1 hf hid.symm ⟨by omega,by omega⟩
  obtain⟨v1,v2,v3,v4⟩:=kw h1 hcl hi1 hr
  cases hb:oh (dM c f) i f with
  |false=>rw[if_neg (by simp)];exact v4 (by omega)
  |true=>
   rw[if_pos rfl,bC v3]
   have v:=v4 (by omega)
   have hpk:=v.pk k' (List.mem_of_getElem? v3)
   have hil:=(List.getElem?_eq_some_iff.1 v3).1
   refine v.upd (k':={k' with ib:=k'.ib++[f.data]}) (sw':=(dL (dM c f) i f).sw) (rw':=(dL (dM c f) i f).rw) (ou':=(dL (dM c f) i f).ou) v3 ?_ rfl (fun e=>e) v.sw v.ss v.sh (Int.le_refl _) (v.nf k' (List.mem_of_getElem? v3)) v.rw v.rs v.ou (fun e=>(v.cl e).1) ?_
   · refine hpk.rcv (w:=k'.st.rcv) (ib:=k'.ib++[f.data]) hpk.vs.rv rfl (fun m hm=> ?_) (fun hd=> ?_)
     · rcases List.mem_append.1 hm with hm|hm
       · exact hpk.ib m hm
       · obtain rfl:=List.mem_singleton.1 hm
         exact(eT hf).1
     · rw[iR,hr.ib]
       exact hr.da hb hk hd
   · rw[cZ v3]
     show ba (dL (dM c f) i f).ks-aT k'.ib+aT (k'.ib++[f.data])≤(dL (dM c f) i f).rw.held
     rw[iR,hr.eq]
     show ba ((dM c f).ks.set i k')-aT k'.ib+(aT k'.ib+aG f.data)≤(dM c f).rw.held
     rw[cZ hi1,hks,hr.ib,e1]
     have:=h.tt
     show ba c.ks-aT k.ib+aT k.ib-aT k.ib+(aT k.ib+aG f.data)≤c.rw.held+aG f.data
     omega
theorem qL{c:NL}{i:Nat}:(eW c i).ks.length=c.ks.length:=by
 unfold eW fi
 simp
theorem vK:∀ (n i:Nat) (c:NL),VB c→i+n=c.ks.length→(∀j k,j<i→c.ks[j]? =some k→NF c.sw k)→VN (eo c n i)
 | 0, i, c, h, hl, hn => ⟨h,fun k hk=>by
  obtain⟨j,hj⟩:=List.getElem?_of_mem hk
  exact hn j k (by have:j<c.ks.length:=(List.getElem?_eq_some_iff.1 hj).1;omega) hj⟩
 |n+1,i,c,h,hl,hn=>by
  have hil:i<c.ks.length:=by omega
  have hi:c.ks[i]? =some c.ks[i]:=List.getElem?_eq_getElem hil
  obtain⟨h1,h2,h3⟩:=h.son hi
  rw[eo]
  refine vK n (i+1) (eW c i) h1 (by rw[qL];omega) (fun j k hj hk=> ?_)
  by_cases e:j=i
  · subst e;exact h3 k hk
  · refine(hn j k (by omega) ?_).less h2
    rw[gC hi]at hk
    have hk':(c.ks.set i _)[j]? =some k:=hk
    rw[List.getElem?_set_ne (fun e'=>e e'.symm)]at hk'
    exact hk'
theorem VN.cred{c:NL}(h:VN c)(hc:c.cl=false){f:aS}(hf:aA f=0)(hk:3≤f.kind∧f.kind≤6)(hg:f.kind=6→f.strm=0→(cy c.sw f.num).err=0):VN (gf c f):=by
 unfold gf
 split
 · rename_i h0
   have h6:f.kind=6:=by
    have:=ns hf
    unfold bW at this
    rw[if_neg (by omega)]at this
    by_cases e:f.kind=6
    · exact e
    · rw[if_neg e,h0]at this;cases this
   have hge:=hg h6 h0
   obtain⟨a,b,d,e⟩:=nm hge
   rw[if_pos hge,e]
   refine vK _ 0 _ ⟨h.sd,h.sz,nr h.sw b d,h.rw,h.ss,h.rs,h.sh,h.la,h.aw,h.n1,h.n2,h.pg,h.pn,h.cn,h.pk,h.asc,h.ou,h.cl,h.tt⟩ (by show 0+c.ks.length=c.ks.length;omega) (fun j k hj=>by omega)
 · cases hfi:bX f.strm c.ks 0 with
   |none=>exact h
   |some i=>
    obtain⟨k,hi,hid⟩:=dg hfi
    obtain⟨k',e,hr⟩:=gG h hi hf hid.symm ⟨by omega,by omega⟩
    obtain⟨v1,v2,v3,v4⟩:=kw h hc hi hr
    exact VN.son v1 v3 v2
theorem VN.acpt{c:NL}(h:VN c)(hc:c.cl=false){f:aS}(hf:aA f=0)(hs:c.sd=2)(hl:c.la<f.strm):VN (gb c f):=by
 have hla:=h.la
 have hz:=(eT hf).2
 unfold gb
 split
 · have h1:=h.out (f:=⟨5,f.strm,12,emptyB⟩) (G9 (by omega) hz (by decide) (by decide)) hc
   exact⟨⟨h1.sd,h1.sz,h1.sw,h1.rw,h1.ss,h1.rs,h1.sh,⟨by show 0≤f.strm;omega,hz⟩,h1.aw,fun e=>(by rw[show({c with la:=f.strm,ou:=c.ou++[⟨5,f.strm,12,emptyB⟩]}:NL).sd=2 from hs]at e;cases e),fun e=>⟨(h.n2 hs).1,by have:=(h.n2 hs).2;show c.aw≤f.strm+1;omega⟩,h1.pg,h1.pn,h1.cn,fun k hk=>(h.pk k hk).la' (by show c.la≤f.strm;omega),h1.asc,h1.ou,h1.cl,h1.tt⟩,h1.nf⟩
 · rename_i g
   have g2:¬64≤cP c.ks:=fun e=>g (.inr (.inl e))
   have g3:(cU f.strm 2 f.num c.sz).err=0:=Decidable.not_not.1 fun e=>g (.inr (.inr (.inl e)))
   have g4:(bK f.data).err=0:=Decidable.not_not.1 fun e=>g (.inr (.inr (.inr e)))
   have e1:cU f.strm 2 f.num c.sz=cU f.strm c.sd f.num c.sz:=by rw[hs]
   rw[e1]at g3 ⊢
   have:=h.more (id:=f.strm) (sh:=f.num) (nx':=c.nx) (la':=f.strm) (ou':=c.ou) g3 hl rfl (fun e=>by omega) (fun _=>(h.n2 hs).1) (by omega) hc (Ff g4) h.ou
   exact this
theorem VN.act{c:NL}(h:VN c)(hc:c.cl=false){f:aS}(hr:gy c f=0):VN (ii c f):=by
 unfold gy at hr
 split at hr
 · cases hr
 rename_i g1
 split at hr
 · cases hr
 rename_i g2
 split at hr
 · cases hr
 rename_i g3
 split at hr
 · cases hr
 rename_i g4
 have hf:aA f=0:=Decidable.not_not.1 fun e=>g1 (.inl e)
 have hfo:og c.sd f.kind=false:=eq_false_of_ne_true fun e=>g1 (.inr e)
 have hkk:=pB hf
 unfold ii
 split
 · rename_i hk
   have hs:c.sd=2:=by
    rcases h.sd with e|e
    · rw[e,hk]at hfo;exact absurd hfo (by decide)
    · exact e
   refine h.acpt hc hf hs ?_
   by_cases e:f.strm≤c.la
   · exact absurd (propext ⟨fun _=>e,fun _=>hk⟩) g2
   · omega
 rename_i hk1
 split
 · rename_i hk
   exact h.data hc hf hk (by have:=fun e=>g3 ⟨hk,e⟩;omega)
 rename_i hk2
 split
 · rename_i hk
   have hn:0≤f.num∧f.num≤4294967295:=by
    have:=mx hf
    unfold cV at this
    rw[hk]at this
    simpa using this
   exact h.out (IG hn.1 hn.2) hc
 rename_i hk7
 split
 · rename_i hk
   have hn:0≤f.num∧f.num≤4294967295:=by
    have:=mx hf
    unfold cV at this
    rw[hk]at this
    simpa using this
   refine⟨⟨h.sd,h.sz,h.sw,h.rw,h.ss,h.rs,h.sh,h.la,h.aw,h.n1,h.n2,?_,fun n hn'=> ?_,h.cn,h.pk,h.asc,h.ou,h.cl,h.tt⟩,h.nf⟩
   · show((c.pg++[f.num]).drop _).length≤16
     rw[List.length_drop,List.length_append,List.length_singleton]
     omega
   · have:=List.mem_of_mem_drop hn'
     rcases List.mem_append.1 this with hx|hx
     · exact h.pn n hx
     · obtain rfl:=List.mem_singleton.1 hx
       exact hn
 rename_i hk8
 split
 · rename_i hk
   have hn:0≤f.num∧f.num≤2147483647:=by
    have:=mx hf
    unfold cV at this
    rw[hk]at this
    simpa using this
   have hs:c.sd=1:=by
    rcases h.sd with e|e
    · exact e
    · rw[e,hk]at hfo;exact absurd hfo (by decide)
   have haw:=h.aw
   refine yo (c:={c with aw:=if c.aw=0∨f.num+1<c.aw then f.num+1 else c.aw}) ⟨⟨h.sd,h.sz,h.sw,h.rw,h.ss,h.rs,h.sh,h.la,?_,h.n1,fun e=>(by have e':c.sd=2:=e;omega),h.pg,h.pn,h.cn,h.pk,h.asc,h.ou,h.cl,h.tt⟩,h.nf⟩ _
   show 0≤(if c.aw=0∨f.num+1<c.aw then f.num+1 else c.aw)∧(if c.aw=0∨f.num+1<c.aw then f.num+1 else c.aw)≤2147483648
   split<;>omega
 rename_i hk9
 exact h.cred hc hf ⟨by omega,by omega⟩ (fun a b=>Decidable.not_not.1 fun e=>g4 ⟨a,b,e⟩)
theorem VN.feed{c:NL}(h:VN c)(f:aS):VN (ci c f).1:=by
 unfold ci
 split
 · exact h
 · rename_i hc
   split
   · exact h.close
   · rename_i hr
     exact h.act (eq_false_of_ne_true hc) (Decidable.not_not.1 hr)
end
section
def tW(l:List KR):Nat:=(l.map (·.ob.length)).sum
def aX(c:NL):Nat:=c.ks.length+c.ou.length+tW c.ks
theorem eu(k:KR)(l:List KR):tW (k::l)=k.ob.length+tW l:=by unfold tW;simp
theorem yp(a b:List KR):tW (a++b)=tW a+tW b:=by unfold tW;simp
theorem jk{k:KR}:∀ {l:List KR},k∈l→k.ob.length≤tW l
 |a::l,h=>by
  rw[eu]
  rcases List.mem_cons.1 h with rfl|h
  · omega
  · have:=jk h;omega
theorem lE{k k':KR}:∀ {l:List KR} {i:Nat},l[i]? =some k→tW (l.set i k')+k.ob.length=tW l+k'.ob.length
 |a::l,0,h=>by
  obtain rfl:=(by simpa using h:a=k)
  rw[List.set_cons_zero,eu,eu];omega
 |a::l,i+1,h=>by
  have h1:l[i]? =some k:=by simpa using h
  have:=lE (k':=k') h1
  rw[List.set_cons_succ,eu,eu];omega
theorem DR{a b:List KR}(h:a.Sublist b):tW a≤tW b:=by
 induction h with
 |slnil=>exact Nat.le_refl _
 |cons k _ ih=>rw[eu];omega
 |cons_cons k _ ih=>rw[eu,eu];omega
theorem gY:∀l:List ByteArray,(l.length:Int)≤aT l
 | []=>Int.le_refl _
 |s::r=>by rw[aT,List.length_cons];have:=gY r;have:=dH s;omega
theorem nA{k:KR}:∀ {l:List KR},k∈l→aT k.ib≤ba l
 |a::l,h=>by
  rw[ba]
  rcases List.mem_cons.1 h with rfl|h
  · have:=ep l;omega
  · have:=nA h;have:=dX a.ib;omega
theorem VB.szl{c:NL}(h:VB c)(hm:aX c≤500000000):SzL c:=by
 unfold aX at hm
 have hrw:=aW.1 h.rw
 have htt:=h.tt
 refine⟨by omega,⟨by omega,fun f hf=>by have:=(eT (h.ou f hf)).1;omega⟩,by have:=h.pg;omega,by omega,fun k hk=> ?_⟩
 have hp:=h.pk k hk
 obtain⟨z1,z2⟩:=EB hp.he
 have hu:=nA hk
 have hi:=gY k.ib
 have ho:=jk hk
 refine⟨by have:k.ms.length≤16:=z2;omega,by omega,by omega,?_,fun f hf=>by have:=(eT (Cf hp.ahd f hf).1).1;omega,by omega,z1⟩
 cases hd:k.st.done with
 |true=>have:=qF (hp.vs.dn hd).2.2;omega
 |false=>have:=(hp.vs.nd hd).2.2.2;omega
theorem jS{c:NL}(h:VB c){i:Nat}{k:KR}(hi:c.ks[i]? =some k):aX (eW c i)≤aX c:=by
 obtain⟨q,hf⟩:=ym h.sw (h.pk k (List.mem_of_getElem? hi))
 rw[gC hi]
 generalize js k.ob k.st c.sw c.ou=r at *
 unfold aX
 have h1:=lE (k':={k with st:=r.st,ob:=r.ob}) hi
 have h2:k.ob.length=q.length+r.ob.length:=by rw[hf.fac.sp];simp
 have h3:r.ou.length=c.ou.length+q.length:=by rw[hf.ou];simp
 dsimp only at h1 ⊢
 rw[List.length_set]
 omega
theorem vL{c:NL}(f:aS):aX {c with ou:=c.ou++[f]}=aX c+1:=by unfold aX;simp;omega
theorem qM(c:NL):aX (gbC c)≤aX c+1:=by
 unfold gbC
 split
 · omega
 · unfold aX;simp;omega
theorem jT{c:NL}{i:Nat}{k:KR}(hi:c.ks[i]? =some k)(g:KR→KR)(hg:(g k).ob.length≤k.ob.length):aX (fi c i g)≤aX c:=by
 rw[bC hi]
 have h1:=lE (k':=g k) hi
 unfold aX
 dsimp only
 rw[List.length_set]
 omega
theorem vM{c:NL}{i:Nat}{k:KR}(hi:c.ks[i]? =some k)(id:Int):aX (gbK c i id)≤aX c+1:=by
 unfold gbK
 split
 · omega
 · rw[bC hi]
   have h1:=lE (k':={k with st:={k.st with rcv:=xO k.st.rcv (rC c i)}}) hi
   unfold aX
   dsimp only at h1 ⊢
   rw[List.length_set,List.length_append,List.length_singleton]
   omega
theorem vN(c:NL)(above:Int):aX (oe c above)≤aX c:=by
 have h:∀l:List KR,tW (l.map (gv above))≤tW l:=by
  intro l
  induction l with
  |nil=>exact Nat.le_refl _
  |cons k r ih=>
   rw[List.map_cons,eu,eu]
   have:(gv above k).ob.length≤k.ob.length:=by
    unfold gv dE
    repeat' split
    all_goals first|exact Nat.zero_le _|exact Nat.le_refl _
   omega
 unfold aX oe
 have:=h c.ks
 dsimp only
 rw[List.length_map]
 omega
theorem qN(c:NL):aX (iL c)≤aX c:=by
 have h1:aX {c with cl:=true,ou:=[]}≤aX c:=by unfold aX;simp
 exact Nat.le_trans (vN _ 0) h1
theorem zF{c:NL}(h:VN c)(f:aS)(chk:Int)(hk:f.kind=2∨f.kind=3∨f.kind=4):aX (bS c f chk).1≤aX c+1:=by
 unfold bS
 split
 · exact Nat.le_add_right _ _
 · rename_i hw
   have hw:fj c f chk=0:=Decidable.not_not.1 hw
   unfold fj at hw
   cases hfi:bX f.strm c.ks 0 with
   |none=>rw[hfi]at hw;cases hw
   |some i=>
    obtain⟨k,hi,hid⟩:=dg hfi
    rw[hfi]at hw
    dsimp only at hw
    rw[cF hi]at hw
    have hp:=h.pk k (List.mem_of_getElem? hi)
    have e1:chk=0:=by
     refine Decidable.not_not.1 fun e=> ?_
     rw[if_pos e]at hw;exact e hw
    rw[if_neg (by simpa using e1),if_neg (by simpa using hp.ahd)]at hw
    have hah:=nu hp.ahd hw
    show aX (eW (fi c i _) i)≤_
    rw[bC hi]
    have hb:VB {c with ks:=c.ks.set i {k with ob:=k.ob++[f]}}:=by
     refine h.toVB.upd (k':={k with ob:=k.ob++[f]}) (sw':=c.sw) (rw':=c.rw) (ou':=c.ou) hi ?_ rfl (fun e=>e) h.sw h.ss h.sh h.rw h.rs h.ou (fun e=>(h.cl e).1) ?_
     · refine⟨hp.vs,hp.sd,hp.z1,hp.z2,hp.h0,hp.he,hp.ib,hp.la,fun e=> ?_,hp.un,fun _=>hah,fun x hx=> ?_⟩
       · have hob:=hp.dn e
         rw[hob,cQ]at hw
         exact absurd hw (oB (s:=fA k.st) e)
       · rcases List.mem_append.1 hx with hx|hx
         · exact hp.kd x hx
         · obtain rfl:=List.mem_singleton.1 hx
           exact hk
     · rw[cZ hi]
       have:=h.tt
       show ba c.ks-aT k.ib+aT k.ib≤c.rw.held
       omega
    have hil:=(List.getElem?_eq_some_iff.1 hi).1
    refine Nat.le_trans (jS hb (i:=i) (k:={k with ob:=k.ob++[f]}) (List.getElem?_set_self hil)) ?_
    have h1:=lE (k':={k with ob:=k.ob++[f]}) hi
    unfold aX
    dsimp only at h1 ⊢
    rw[List.length_append,List.length_singleton]at h1
    rw[List.length_set]
    omega
theorem vO{c:NL}(id code:Int):aX (ga c id code).1≤aX c+1:=by
 unfold ga
 split
 · exact Nat.le_add_right _ _
 · rename_i hw
   have hw:lO c id code=0:=Decidable.not_not.1 hw
   unfold lO at hw
   cases hfi:bX id c.ks 0 with
   |none=>rw[hfi]at hw;cases hw
   |some i=>
    obtain⟨k,hi,hid⟩:=dg hfi
    show aX {fi c i _ with ou:=_}≤_
    have h1:=jT hi (fun k=>dE {k with st:=(aZ k.st ⟨5,id,code,emptyB⟩).st}) (by unfold dE;split<;>first|exact Nat.zero_le _|exact Nat.le_refl _)
    rw[bC hi]at h1 ⊢
    unfold aX at h1 ⊢
    dsimp only at h1 ⊢
    rw[List.length_append,List.length_singleton]
    omega
theorem zG{c:NL}(id:Int):aX (de c id).1≤aX c+2:=by
 unfold de
 cases hfi:bX id c.ks 0 with
 |none=>exact Nat.le_add_right _ _
 |some i=>
  obtain⟨k,hi,hid⟩:=dg hfi
  dsimp only
  rw[cF hi]
  cases hib:k.ib with
  |nil=>exact Nat.le_add_right _ _
  |cons s r=>
   dsimp only
   have h1:=jT hi (fun k=>{k with ib:=r}) (Nat.le_refl _)
   have hil:=(List.getElem?_eq_some_iff.1 hi).1
   refine Nat.le_trans (qM _) ?_
   split
   · omega
   · have h2:=vM (c:=fi c i (fun k=>{k with ib:=r})) (i:=i) (k:={k with ib:=r}) (by rw[bC hi];exact List.getElem?_set_self hil) id
     omega
theorem zH{c:NL}(id:Int):aX (fH c id)≤aX c+1:=by
 unfold fH
 cases hfi:bX id c.ks 0 with
 |none=>exact Nat.le_add_right _ _
 |some i=>
  dsimp only
  split
  · omega
  · refine Nat.le_trans (qM _) ?_
    have h1:(c.ks.eraseIdx i).Sublist c.ks:=List.eraseIdx_sublist ..
    have:=DR h1
    have:=h1.length_le
    unfold aX
    dsimp only
    omega
theorem zI{c:NL}(hd:io)(sh:Int):aX (bN c hd sh).1≤aX c+2:=by
 unfold bN
 split
 · exact Nat.le_add_right _ _
 · unfold aX
   dsimp only
   rw[yp,eu]
   simp only[List.length_append,List.length_singleton]
   show _+(0+tW [])≤_
   unfold tW
   simp
   omega
theorem qO:∀ (n i:Nat) (c:NL),VB c→i+n=c.ks.length→aX (eo c n i)≤aX c
 |0,i,c,h,hl=>Nat.le_refl _
 |n+1,i,c,h,hl=>by
  have hil:i<c.ks.length:=by omega
  have hi:c.ks[i]? =some c.ks[i]:=List.getElem?_eq_getElem hil
  obtain⟨h1,h2,h3⟩:=h.son hi
  rw[eo]
  have:=qO n (i+1) (eW c i) h1 (by rw[qL];omega)
  have:=jS h hi
  omega
theorem nB{c:NL}{i:Nat}{k k':KR}(hi:c.ks[i]? =some k){f:aS}{e:List aS}(hr:Fj c i k f k' e):aX (dL c i f)≤aX c+1:=by
 rw[hr.eq]
 have h1:=lE (k':=k') hi
 have h2:k'.ob.length≤k.ob.length∧e.length≤1:=by
  by_cases he:(bu k.st f).err=0
  · obtain⟨e1,e2⟩:=hr.ok he
    rw[e1,e2]
    refine⟨?_,Nat.zero_le _⟩
    unfold dE
    split
    · exact Nat.zero_le _
    · exact Nat.le_refl _
  · obtain⟨e1,e2⟩:=hr.no he
    rw[e1,e2]
    exact⟨Nat.zero_le _,Nat.le_refl _⟩
 unfold aX
 dsimp only
 rw[List.length_set,List.length_append]
 omega
theorem zJ{c:NL}(h:VN c)(f:aS):aX (ci c f).1≤aX c+2:=by
 unfold ci
 split
 · exact Nat.le_add_right _ _
 rename_i hc0
 have hc:c.cl=false:=eq_false_of_ne_true hc0
 split
 · have:=qN c
   dsimp only;omega
 rename_i hr
 have hr:gy c f=0:=Decidable.not_not.1 hr
 unfold gy at hr
 split at hr
 · cases hr
 rename_i g1
 split at hr
 · cases hr
 rename_i g2
 split at hr
 · cases hr
 rename_i g3
 split at hr
 · cases hr
 rename_i g4
 have hf:aA f=0:=Decidable.not_not.1 fun e=>g1 (.inl e)
 have hkk:=pB hf
 dsimp only
 unfold ii
 split
 · unfold gb
   split
   · unfold aX;dsimp only;rw[List.length_append,List.length_singleton];omega
   · unfold aX
     dsimp only
     rw[yp,eu]
     simp only[List.length_append,List.length_singleton]
     show _+(0+tW [])≤_
     unfold tW
     simp
     omega
 rename_i hk1
 split
 · rename_i hk
   have hl:aG f.data≤c.rw.left:=by have:=fun e=>g3 ⟨hk,e⟩;omega
   obtain⟨e1,h1⟩:=oC h hl
   have hm:aX (dM c f)=aX c:=by rw[e1];rfl
   have hks:(dM c f).ks=c.ks:=by rw[e1]
   unfold lP
   refine Nat.le_trans (qM _) ?_
   cases hfi:bX f.strm c.ks 0 with
   |none=>dsimp only;omega
   |some i=>
    obtain⟨k,hi,hid⟩:=dg hfi
    dsimp only
    have hi1:(dM c f).ks[i]? =some k:=by rw[hks];exact hi
    obtain⟨k',e,hrr⟩:=gG h1 hi1 hf hid.symm ⟨by omega,by omega⟩
    have h3:=nB hi1 hrr
    obtain⟨v1,v2,v3,v4⟩:=kw h1 (by rw[e1];exact hc) hi1 hrr
    split
    · have:=jT v3 (fun k=>{k with ib:=k.ib++[f.data]}) (Nat.le_refl _)
      omega
    · omega
 rename_i hk2
 split
 · rw[vL];omega
 rename_i hk7
 split
 · unfold aX;dsimp only;omega
 rename_i hk8
 split
 · refine Nat.le_trans (vN _ _) ?_
   unfold aX;dsimp only;omega
 rename_i hk9
 unfold gf
 split
 · rename_i h0
   have h6:f.kind=6:=by
    have:=ns hf
    unfold bW at this
    rw[if_neg (by omega)]at this
    by_cases e:f.kind=6
    · exact e
    · rw[if_neg e,h0]at this;cases this
   have hge:(cy c.sw f.num).err=0:=Decidable.not_not.1 fun e=>g4 ⟨h6,h0,e⟩
   obtain⟨a,b,d,e⟩:=nm hge
   rw[if_pos hge,e]
   refine Nat.le_trans (qO _ 0 _ ⟨h.sd,h.sz,nr h.sw b d,h.rw,h.ss,h.rs,h.sh,h.la,h.aw,h.n1,h.n2,h.pg,h.pn,h.cn,h.pk,h.asc,h.ou,h.cl,h.tt⟩ (by show 0+c.ks.length=c.ks.length;omega)) ?_
   unfold aX;dsimp only;omega
 · cases hfi:bX f.strm c.ks 0 with
   |none=>dsimp only;omega
   |some i=>
    obtain⟨k,hi,hid⟩:=dg hfi
    obtain⟨k',e,hrr⟩:=gG h hi hf hid.symm ⟨by omega,by omega⟩
    obtain⟨v1,v2,v3,v4⟩:=kw h hc hi hrr
    have h3:=nB hi hrr
    have h4:=jS v1 v3
    dsimp only
    omega
theorem vP(c:NL)(s:bZ):∀l:List aS,(∀f∈l,f.kind=2∨f.kind=3∨f.kind=4)→fB c l false s=true
 | [],_=>by rw[fB]
 |f::r,h=>by
  rw[fB,vP c s r (fun x hx=>h x (List.mem_cons_of_mem _ hx))]
  rcases h f (List.mem_cons_self ..)with e|e|e<;>rw[e]<;>rfl
theorem PK.callOk{c:NL}{k:KR}(h:PK c.sd c.sz c.la k)(hn:NF c.sw k)(hw:bi c.sw=true):callOk c k=true:=by
 unfold Y.callOk
 rw[fS.2 h.vs,h.sd,h.z1,h.z2,h.h0,h.he,show(k.ib.all fun m=>decide (m.size≤16384))=true from List.all_eq_true.2 fun m hm=>decide_eq_true (h.ib m hm)]
 simp only[decide_true,Bool.and_true,Bool.true_and]
 cases hd:k.st.done with
 |true=>rw[if_pos rfl,h.dn hd];rfl
 |false=>
  rw[if_neg (by simp),decide_eq_true (h.un hd),decide_eq_true (h.ah hd),Bool.true_and,Bool.true_and]
  cases ho:k.ob with
  |nil=>rw[fB]
  |cons f r=>
   have hk:=h.kd
   rw[ho]at hk
   rw[fB,vP c k.st r (fun x hx=>hk x (List.mem_cons_of_mem _ hx))]
   have h1:=hn f r ho
   have h2:f.kind=2:=by
    refine Decidable.not_not.1 fun e=> ?_
    rw[bF,if_neg e]at h1
    have a:=aW.1 h.vs.sn
    have b:=aW.1 hw
    omega
   rw[ej h2]at h1
   rw[h2]
   rcases h1 with h1|h1
   · rw[decide_eq_false (show¬aG f.data≤k.st.snd.left by omega)];rfl
   · rw[decide_eq_false (show¬aG f.data≤c.sw.left by omega),Bool.and_false];rfl
theorem Ck:∀ (l:List KR) (p:Option Int),(∀x,p=some x→ ∀k∈l,x<k.st.id)→(l.map (·.st.id)).Pairwise (· < ·)→ascB p l=true
 | [],_,_,_=>by rw[ascB.eq_def]
 |k::r,p,h,hp=>by
  rw[List.map_cons,List.pairwise_cons]at hp
  rw[ascB.eq_def]
  dsimp only
  rw[Ck r (some k.st.id) (fun x e y hy=>by obtain rfl:=Option.some.inj e;exact hp.1 _ (List.mem_map_of_mem hy)) hp.2,Bool.and_true]
  cases p with
  |none=>rfl
  |some x=>exact decide_eq_true (h x rfl k (List.mem_cons_self ..))
theorem VB.acts{c:NL}(h:VB c):qA c.ks=cP c.ks:=B2 (Ck c.ks none (fun _ e=>by cases e) h.asc)
theorem Cl(c:NL):∀ (l:List KR) (p:Option Int),(∀k∈l,Y.callOk c k=true∧k.st.id≤c.la)→(∀x,p=some x→ ∀k∈l,x<k.st.id)→(l.map (·.st.id)).Pairwise (· < ·)→rgtGo c p l=true
 | [],p,_,_,_=>sU c p
 |k::r,p,hk,h,hp=>by
  rw[List.map_cons,List.pairwise_cons]at hp
  obtain⟨h1,h2⟩:=hk k (List.mem_cons_self ..)
  rw[oz,Cl c r (some k.st.id) (fun x hx=>hk x (List.mem_cons_of_mem _ hx)) (fun x e y hy=>by obtain rfl:=Option.some.inj e;exact hp.1 _ (List.mem_map_of_mem hy)) hp.2]
  rw[h1,decide_eq_false (show¬k.st.id>c.la by omega)]
  cases p with
  |none=>rfl
  |some x=>
   have:=h x rfl k (List.mem_cons_self ..)
   show(false||decide (k.st.id≤x))=false
   rw[decide_eq_false (by omega)];rfl
theorem VN.told{c:NL}(h:VN c):ko c=true:=by
 have ha:=h.acts
 have hsz:=h.sz
 have hla:=h.la
 have haw:=h.aw
 have hn:oR c=true:=by
  unfold oR
  rw[h.sw,h.rw,decide_eq_true h.sz,decide_eq_true h.ss,decide_eq_true h.rs,decide_eq_true h.sh,decide_eq_true (show 0≤c.la∧c.la≤2147483647∧0≤c.aw∧c.aw≤2147483648 from⟨hla.1,hla.2,haw.1,haw.2⟩)]
  rcases h.sd with e|e
  · rw[if_neg (by omega),decide_eq_true e,decide_eq_true (h.n1 e)];rfl
  · rw[if_pos e,decide_eq_true e,decide_eq_true (h.n2 e).1,decide_eq_true (h.n2 e).2]
    simp
 have hpg:=h.pg
 have hcn:=h.cn
 have h1:Ex c=false:=by
  unfold Ex
  rw[hn,ha,decide_eq_false (show¬ (c.pg.length:Int)>16 by omega),decide_eq_false (show¬ ((cP c.ks:Nat):Int)>64 by omega)];rfl
 have h2:B8 c=false:=by
  unfold B8
  cases hc:c.cl with
  |false=>rfl
  |true=>
   obtain⟨a,b⟩:=h.cl hc
   rw[ha,a,b];rfl
 have h3:rgtGo c none c.ks=true:=Cl c c.ks none (fun k hk=>⟨(h.pk k hk).callOk (h.nf k hk) h.sw,(h.pk k hk).la⟩) (fun _ e=>by cases e) h.asc
 have h4:tT c.pg=true:=List.all_eq_true.2 fun n hn=>by
  have:=h.pn n hn
  rw[decide_eq_false (show¬n<0 by omega),decide_eq_false (show¬n>4294967295 by omega)];rfl
 have h5:rI c.ou=true:=List.all_eq_true.2 fun f hf=>decide_eq_true (h.ou f hf)
 unfold ko
 rw[h1,h2,h3,h4,h5,decide_eq_true h.tt]
 rfl
end
section
structure xj where
 kind:Int
 id:Int
 n:Int
 msg:ByteArray
 h:io
 f:aS
 tc:Int
 tt:ByteArray
structure Ha where
 e:Int
 id:Int
 msg:ByteArray
 ok:Bool
 outs:List aS
def DS(e:Int):Ha:=⟨e,0,⟨#[]⟩,false,[]⟩
def cx(c:NL)(o:xj):NL:=
 if o.kind=0 then(bN c o.h o.n).1 else if o.kind=1 then(jF c o.id o.msg).1 else if o.kind=2 then(mT c o.id).1
 else if o.kind=3 then(mU c o.id o.tc o.tt).1 else if o.kind=4 then(ga c o.id o.n).1 else if o.kind=5 then(de c o.id).1
 else if o.kind=6 then(ci c o.f).1 else if o.kind=7 then(kD c).1 else if o.kind=8 then(eE c o.n).1
 else if o.kind=9 then iK c else if o.kind=10 then iL c else if o.kind=11 then fH c o.id else c
def bY(c:NL)(o:xj):Ha:=
 if o.kind=0 then⟨(bN c o.h o.n).2.2,(bN c o.h o.n).2.1,⟨#[]⟩,false,[]⟩else if o.kind=1 then DS (jF c o.id o.msg).2 else if o.kind=2 then DS (mT c o.id).2
 else if o.kind=3 then DS (mU c o.id o.tc o.tt).2 else if o.kind=4 then DS (ga c o.id o.n).2 else if o.kind=5 then⟨0,0,(de c o.id).2.1,(de c o.id).2.2,[]⟩
 else if o.kind=6 then DS (ci c o.f).2 else if o.kind=7 then⟨0,0,⟨#[]⟩,false,(kD c).2⟩else if o.kind=8 then DS (eE c o.n).2 else DS 0
theorem vQ{c:NL}(o:xj)(p:NL→Prop)(h0:p c)(h1:p (bN c o.h o.n).1)(h2:∀f chk,(f.kind=2∨f.kind=3∨f.kind=4)→p (bS c f chk).1)(h3:p (ga c o.id o.n).1)(h4:p (de c o.id).1)(h5:o.kind=6→p (ci c o.f).1)(h6:o.kind=7→p (kD c).1)(h7:p (eE c o.n).1)(h8:p (iK c))(h9:p (iL c))(h10:p (fH c o.id)):p (cx c o):=by
 unfold cx
 split
 · exact h1
 split
 · exact h2 _ _ (.inl rfl)
 split
 · exact h2 _ _ (.inr (.inl rfl))
 split
 · exact h2 _ _ (.inr (.inr rfl))
 split
 · exact h3
 split
 · exact h4
 split
 · rename_i h;exact h5 h
 split
 · rename_i h;exact h6 h
 split
 · exact h7
 split
 · exact h8
 split
 · exact h9
 split
 · exact h10
 · exact h0
theorem VN.step{c:NL}(h:VN c)(o:xj):VN (cx c o):=
 vQ o VN h (h.open _ _) (fun f chk hk=>h.wait f chk hk) (h.cancel _ _) (h.read _) (fun _=>h.feed _) (fun _=>h.flush) (h.ping _) h.away h.close (h.drop _)
theorem zK{c:NL}(h:VN c)(o:xj):aX (cx c o)≤aX c+2:=
 vQ o (fun d=>aX d≤aX c+2) (Nat.le_add_right _ _) (zI _ _) (fun f chk hk=>by have:=zF h f chk hk;omega) (by have:=vO (c:=c) o.id o.n;omega) (zG _) (fun _=>zJ h _) (fun _=>by unfold kD aX;dsimp only;simp;omega)
  (by
   unfold eE
   split
   · exact Nat.le_add_right _ _
   · split
     · exact Nat.le_add_right _ _
     · dsimp only;rw[vL];omega)
  (by
   unfold iK
   split
   · unfold aX;dsimp only;rw[List.length_append,List.length_singleton];omega
   · exact Nat.le_add_right _ _)
  (by have:=qN c;omega) (by have:=zH (c:=c) o.id;omega)
structure K2(k k':KR):Prop where
 id:k'.st.id=k.st.id
 st:k.st.done=true→k'.st.done=true∧k'.st.code=k.st.code∧k'.st.text=k.st.text
theorem K2.refl(k:KR):K2 k k:=⟨rfl,fun h=>⟨h,rfl,rfl⟩⟩
theorem K2.trans{a b d:KR}(h1:K2 a b)(h2:K2 b d):K2 a d:=⟨h2.id.trans h1.id,fun h=>by
 obtain⟨x,y,z⟩:=h1.st h
 obtain⟨x',y',z'⟩:=h2.st x
 exact⟨x',y'.trans y,z'.trans z⟩⟩
def Kq(l l':List KR):Prop:= ∀k∈l,∃k'∈l',K2 k k'
def Kp(l l':List KR):Prop:= ∀k∈l,(∃k'∈l',K2 k k')∨(k.st.done=true∧ ∀y∈l',y.st.id≠k.st.id)
theorem Kq.kp{l l':List KR}(h:Kq l l'):Kp l l':=fun k hk=> .inl (h k hk)
theorem Kq.refl(l:List KR):Kq l l:=fun k hk=>⟨k,hk,.refl k⟩
theorem Kq.trans{a b d:List KR}(h1:Kq a b)(h2:Kq b d):Kq a d:=fun k hk=>by
 obtain⟨k1,hk1,e1⟩:=h1 k hk
 obtain⟨k2,hk2,e2⟩:=h2 k1 hk1
 exact⟨k2,hk2,e1.trans e2⟩
theorem Kq.set{l:List KR}{i:Nat}{k k':KR}(hi:l[i]? =some k)(h:K2 k k'):Kq l (l.set i k'):=fun x hx=>by
 obtain⟨j,hj⟩:=List.getElem?_of_mem hx
 by_cases e:i=j
 · subst e
   rw[hi]at hj
   obtain rfl:=Option.some.inj hj
   exact⟨k',List.mem_of_getElem? (List.getElem?_set_self (List.getElem?_eq_some_iff.1 hi).1),h⟩
 · exact⟨x,List.mem_of_getElem? (by rw[List.getElem?_set_ne e];exact hj),.refl x⟩
theorem Cm{c:NL}{o:xj}(h:o.kind≠7):(bY c o).outs=[]:=by
 unfold bY
 repeat' split
 all_goals first|rfl|exact absurd (by assumption) h
end
end Go.Proofs.YthiocbcokfondaaGreatDoor.Y
