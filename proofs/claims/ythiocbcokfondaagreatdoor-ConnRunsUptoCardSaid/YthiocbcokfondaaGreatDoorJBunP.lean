import Derived.Test.YthiocbcokfondaaGreatDoorJBunI
import Derived.Test.YthiocbcokfondaaGreatDoorJBunX
namespace Go.Proofs.YthiocbcokfondaaGreatDoor
open Go.RowKit
theorem vE{s:ByteArray}(h:(bK s).err=0):bG (bK s).head=0∧fX (bK s).head=s.data.toList:=by
 unfold bK jc at h ⊢
 simp only at h ⊢
 split at h
 · rename_i q;exact absurd h q
 · rename_i q1
   rw[if_neg q1]
   split at h
   · cases h
   · rename_i q2
     rw[if_neg q2]
     split at h
     · cases h
     · rename_i q3
       rw[if_neg q3]
       split at h
       · rename_i q;exact absurd h q
       · rename_i q4
         rw[if_neg q4]
         split at h
         · cases h
         · rename_i q5
           rw[if_neg q5]
           exact⟨Decidable.not_not.1 q4,Decidable.not_not.1 q5⟩
end Go.Proofs.YthiocbcokfondaaGreatDoor
namespace Go.Proofs.YthiocbcokfondaaGreatDoor.Y
section
theorem yf{d:ByteArray}(h:(bj d).err=0):aP (bj d).code (bj d).text=0:=by
 unfold bj at h ⊢
 by_cases h0:(bR d).2.2=0
 · rw[if_pos h0]at h ⊢
   unfold eb at h ⊢
   by_cases a:(bR d).2.1≠(bp (bR d).1).length
   · rw[if_pos a]at h;exact absurd h (by decide)
   rw[if_neg a]at h ⊢
   by_cases b:13<(bR d).1
   · rw[if_pos b]at h;exact absurd h (by decide)
   rw[if_neg b]at h ⊢
   by_cases c:aP (bR d).1 (d.extract (bR d).2.1 d.size)=0
   · rw[if_pos c];exact c
   · rw[if_neg c]at h;exact absurd h c
 · rw[if_neg h0]at h
   exact absurd h h0
theorem nl{n:Int}(h0:0≤n)(h1:n≤13):aP n ⟨#[]⟩=0:=by
 unfold aP
 have hv:gi ⟨#[]⟩=true:=by kernel_rfl
 rw[if_neg (by omega),hv,if_neg (by simp),if_neg (by decide),if_neg (by rintro⟨_,e⟩;exact e rfl)]
theorem qF{n:Int}{t:ByteArray}(h:aP n t=0):t.size≤4096:=by
 unfold aP at h
 repeat' split at h
 all_goals omega
theorem Ff{s:ByteArray}(h:(bK s).err=0):bG (bK s).head=0:=(vE h).1
theorem yg:∀ (ms:List (ByteArray×ByteArray)) (i:Nat) (p:ByteArray),eD i p ms=0→ ∀m∈ms,m.1.size<4294967281∧m.2.size<4294967281
 | [],_,_,_,_,h=>by cases h
 |(k,v)::r,i,p,h,m,hm=>by
  rw[eD]at h
  repeat' split at h
  all_goals first
   |(exfalso;revert h;decide)
   |skip
  rename_i a b _ _
  have hk:jb k.data.toList=true:=by simpa using a
  unfold jb at hk
  simp only[Bool.and_eq_true,decide_eq_true_eq]at hk
  rcases List.mem_cons.1 hm with rfl|hm
  · have h1:=hk.1.2
    rw[Array.length_toList]at h1
    refine⟨?_,by show v.size<_;omega⟩
    show k.data.size<_
    omega
  · exact yg r (i+1) k h m hm
theorem EB{h:io}(e:bG h=0):fK h∧h.metas.length≤16:=by
 unfold bG at e
 repeat' split at e
 all_goals first
  |(exfalso;revert e;decide)
  |skip
 rename_i a b c
 have h1:cN h.svc.data.toList=true:=by simpa using fun x=>a (.inl x)
 have h2:bE h.mth.data.toList=true:=by simpa using fun x=>a (.inr x)
 unfold cN at h1
 unfold bE at h2
 simp only[Bool.and_eq_true,decide_eq_true_eq,Array.length_toList]at h1 h2
 refine⟨⟨?_,?_,yg h.metas 0 _ e⟩,by omega⟩
 · have:=h1.1
   show h.svc.data.size<_
   omega
 · have:=h2.1.1.2
   show h.mth.data.size<_
   omega
end
section
theorem dH(d:ByteArray):1≤aG d:=by unfold aG;split<;>omega
theorem aW{w:bk}:bi w=true ↔ (1≤w.size∧w.size≤1048576∧0≤w.left∧0≤w.held∧w.left≤1048576∧w.left+w.held≤1048576):=by unfold bi;exact decide_eq_true_iff
theorem fL{w:bk}{n:Int}(h:bi w=true)(h0:0≤n)(h1:n≤w.left):cA w n=⟨⟨w.size,w.left-n,w.held⟩,0⟩:=by
 unfold cA
 rw[if_neg (by rw[h];simp;omega),if_neg (by omega)]
theorem mD{w:bk}{n:Int}(h:(cA w n).err=0):bi w=true∧0≤n∧n≤w.left∧cA w n=⟨⟨w.size,w.left-n,w.held⟩,0⟩:=by
 unfold cA at h
 split at h
 · cases h
 · rename_i h1
   split at h
   · cases h
   · have h2:bi w=true:=by simpa using fun e=>h1 (.inl e)
     exact⟨h2,by omega,by omega,fL h2 (by omega) (by omega)⟩
theorem qG{w:bk}{n:Int}(h:bi w=true)(h0:0≤n)(h1:n≤w.left):bM w n=⟨⟨w.size,w.left-n,w.held+n⟩,0⟩:=by
 unfold bM
 rw[if_neg (by rw[h];simp;omega),if_neg (by omega)]
theorem yh{w:bk}{n:Int}(h:(bM w n).err=0):bi w=true∧0≤n∧n≤w.left∧bM w n=⟨⟨w.size,w.left-n,w.held+n⟩,0⟩:=by
 unfold bM at h
 split at h
 · cases h
 · rename_i h1
   split at h
   · cases h
   · have h2:bi w=true:=by simpa using fun e=>h1 (.inl e)
     exact⟨h2,by omega,by omega,qG h2 (by omega) (by omega)⟩
theorem Cc{w:bk}{n:Int}(h:bi w=true)(h0:1≤n)(h1:n≤1048576-w.left-w.held):cy w n=⟨⟨w.size,w.left+n,w.held⟩,0⟩:=by
 unfold cy
 rw[if_neg (by rw[h];simp;omega),if_neg (by omega)]
theorem nm{w:bk}{n:Int}(h:(cy w n).err=0):bi w=true∧1≤n∧n≤1048576-w.left-w.held∧cy w n=⟨⟨w.size,w.left+n,w.held⟩,0⟩:=by
 unfold cy at h
 split at h
 · cases h
 · rename_i h1
   split at h
   · cases h
   · have h2:bi w=true:=by simpa using fun e=>h1 (.inl e)
     exact⟨h2,by omega,by omega,Cc h2 (by omega) (by omega)⟩
theorem np{w:bk}{n:Int}(h:bi w=true)(h0:0≤n)(h1:n≤w.left):bi ⟨w.size,w.left-n,w.held⟩=true:=by
 rw[aW]at h ⊢;dsimp only;omega
theorem tV{w:bk}{n:Int}(h:bi w=true)(h0:0≤n)(h1:n≤w.left):bi ⟨w.size,w.left-n,w.held+n⟩=true:=by
 rw[aW]at h ⊢;dsimp only;omega
theorem nr{w:bk}{n:Int}(h:bi w=true)(h0:1≤n)(h1:n≤1048576-w.left-w.held):bi ⟨w.size,w.left+n,w.held⟩=true:=by
 rw[aW]at h ⊢;dsimp only;omega
structure VS(s:bZ):Prop where
 id:1≤s.id∧s.id≤2147483647
 sd:s.side=1∨s.side=2
 sh:pr s.shape=true
 sn:bi s.snd=true
 rv:bi s.rcv=true
 rq:0≤gU s∧gU s≤kG (c2 s.shape)
 rs:0≤kl s∧kl s≤kG (c4 s.shape)
 dn:s.done=true→s.se=true∧s.ge=true∧aP s.code s.text=0
 nd:s.done=false→rB s=false∧(lI s=true→c1 s.shape≤gU s)∧s.code=0∧s.text.size=0
theorem fS{s:bZ}:cY s=true ↔ VS s:=by
 unfold cY qj qk xL
 constructor
 · intro h
   simp only[Bool.and_eq_true,decide_eq_true_eq]at h
   obtain⟨⟨⟨⟨a1,a2,a3⟩,a4⟩,⟨a5,a6⟩,a7,a8,a9,a10⟩,a11⟩:=h
   refine⟨⟨a1,a2⟩,a3,a4,a5,a6,⟨a7,a8⟩,⟨a9,a10⟩,fun hd=> ?_,fun hd=> ?_⟩
   · rw[if_pos hd]at a11
     simp only[Bool.and_eq_true,decide_eq_true_eq]at a11
     exact⟨a11.1.1,a11.1.2,a11.2⟩
   · rw[if_neg (by rw[hd];simp)]at a11
     simp only[Bool.and_eq_true,decide_eq_true_eq,Bool.not_eq_true',Bool.or_eq_true]at a11
     exact⟨a11.1.1.1,fun h=>a11.1.1.2.resolve_left (by rw[h];simp),a11.1.2,a11.2⟩
 · intro h
   simp only[Bool.and_eq_true,decide_eq_true_eq]
   refine⟨⟨⟨⟨h.id.1,h.id.2,h.sd⟩,h.sh⟩,⟨h.sn,h.rv⟩,h.rq.1,h.rq.2,h.rs⟩,?_⟩
   cases hd:s.done with
   |true=>
    obtain⟨a,b,c⟩:=h.dn hd
    rw[if_pos rfl,a,b,c];rfl
   |false=>
    obtain⟨a,b,c,d⟩:=h.nd hd
    rw[if_neg (by simp)]
    simp only[Bool.and_eq_true,decide_eq_true_eq,Bool.not_eq_true',Bool.or_eq_true]
    refine⟨⟨⟨a,?_⟩,c⟩,d⟩
    cases hq:lI s with
    |false=>exact .inl rfl
    |true=>exact .inr (b hq)
inductive FJ(s:bZ)(f:aS):bZ→Prop
 |data (hk:f.kind=2) (he:s.se=false) (hm:s.sent<iJ s (s.side==1)) (hz:aG f.data≤s.snd.size) (hl:aG f.data≤s.snd.left):FJ s f {s with sent:=s.sent+1,snd:=⟨s.snd.size,s.snd.left-aG f.data,s.snd.held⟩}
 |fin (hk:f.kind=3) (he:s.se=false) (hs:s.side=1) (hm:c1 s.shape≤s.sent):FJ s f {s with se:=true}
 |stat (hk:f.kind=4) (hs:s.side≠1) (hm:(bj f.data).code=0→dr s=false):FJ s f (dq s (bj f.data).code (bj f.data).text)
 |reset (hk:f.kind=5):FJ s f (dq s f.num ⟨#[]⟩)
structure SndOk(s:bZ)(f:aS)(t:bZ):Prop where
 v:cY s=true
 fe:aA f=0
 i:f.strm=s.id
 d:s.done=false
 h:FJ s f t
theorem fT{s:bZ}{f:aS}(h:(aZ s f).err=0):SndOk s f (aZ s f).st:=by
 unfold aZ at h ⊢
 split at h
 · cases h
 rename_i g0
 rw[if_neg g0]
 have hv:cY s=true:=by simpa using fun e=>g0 (.inl e)
 have hf:aA f=0:=Decidable.not_not.1 fun e=>g0 (.inr (.inl e))
 have hi:f.strm=s.id:=Decidable.not_not.1 fun e=>g0 (.inr (.inr e))
 split at h
 · rename_i hk
   rw[if_pos hk]
   split at h
   · cases h
   rename_i g1
   rw[if_neg g1]
   split at h
   · cases h
   rename_i g2
   rw[if_neg g2]
   split at h
   · cases h
   rename_i g3
   rw[if_neg g3]
   split at h
   · rename_i g4;exact absurd h g4
   rename_i g4
   rw[if_neg g4]
   obtain⟨_,_,t3,t4⟩:=mD (Decidable.not_not.1 g4)
   refine⟨hv,hf,hi,eq_false_of_ne_true fun e=>g1 (.inl e),?_⟩
   rw[t4]
   exact .data hk (eq_false_of_ne_true fun e=>g1 (.inr e)) (by omega) (by omega) t3
 · rename_i hk2
   rw[if_neg hk2]
   split at h
   · rename_i hk
     rw[if_pos hk]
     split at h
     · cases h
     rename_i g1
     rw[if_neg g1]
     split at h
     · cases h
     rename_i g2
     rw[if_neg g2]
     exact⟨hv,hf,hi,eq_false_of_ne_true fun e=>g1 (.inl e),.fin hk (eq_false_of_ne_true fun e=>g1 (.inr (.inl e))) (Decidable.not_not.1 fun e=>g1 (.inr (.inr e))) (by omega)⟩
   · rename_i hk3
     rw[if_neg hk3]
     split at h
     · rename_i hk
       rw[if_pos hk]
       split at h
       · cases h
       rename_i g1
       rw[if_neg g1]
       split at h
       · cases h
       rename_i g2
       rw[if_neg g2]
       refine⟨hv,hf,hi,eq_false_of_ne_true fun e=>g1 (.inl e),?_⟩
       rw[dU,if_neg (by omega)]
       exact .stat hk (fun e=>g1 (.inr e)) (fun e=>eq_false_of_ne_true fun e'=>g2 ⟨e,e'⟩)
     · rename_i hk4
       rw[if_neg hk4]
       split at h
       · rename_i hk
         rw[if_pos hk]
         split at h
         · cases h
         rename_i g1
         rw[if_neg g1,dU,if_pos hk]
         exact⟨hv,hf,hi,eq_false_of_ne_true g1,.reset hk⟩
       · cases h
theorem jR{s t:bZ}{f:aS}(h:SndOk s f t):aZ s f=⟨t,0⟩:=by
 obtain⟨hv,hf,hi,hd,h⟩:=h
 have hd':¬s.done=true:=by rw[hd];simp
 unfold aZ
 rw[if_neg (by rw[hv,hf,hi];simp)]
 cases h with
 |data hk he hm hz hl=>
  have hw:=(fS.1 hv).sn
  have he':¬s.se=true:=by rw[he];simp
  have ht:=fL hw (show 0≤aG f.data by have:=dH f.data;omega) hl
  rw[if_pos hk,if_neg (by rintro(e|e);exact hd' e;exact he' e),if_neg (by omega),if_neg (by omega),ht,if_neg (by simp)]
 |fin hk he hs hm=>
  have he':¬s.se=true:=by rw[he];simp
  rw[if_neg (by omega),if_pos hk,if_neg (by rintro(e|e|e);exact hd' e;exact he' e;exact e hs),if_neg (by omega)]
 |stat hk hs hm=>
  rw[if_neg (by omega),if_neg (by omega),if_pos hk,if_neg (by rintro(e|e);exact hd' e;exact hs e),if_neg (by rintro⟨e,e'⟩;rw[hm e]at e';cases e'),dU,if_neg (by omega)]
 |reset hk=>
  rw[if_neg (by omega),if_neg (by omega),if_neg (by omega),if_pos hk,if_neg hd',dU,if_pos hk]
theorem mx{f:aS}(h:aA f=0):cV f.kind f.num=true:=by
 unfold aA at h
 split at h
 · cases h
 · rename_i g
   simpa using fun e=>g (.inr (.inr (.inr (.inl e))))
theorem ns{f:aS}(h:aA f=0):bW f.kind f.strm=true:=by
 unfold aA at h
 split at h
 · cases h
 · rename_i g
   simpa using fun e=>g (.inr (.inr (.inl e)))
theorem eT{f:aS}(h:aA f=0):f.data.size≤16384∧f.strm≤2147483647:=by
 unfold aA at h
 split at h
 · cases h
 · split at h
   · cases h
   · omega
theorem pB{f:aS}(h:aA f=0):1≤f.kind∧f.kind≤9:=by
 unfold aA at h
 split at h
 · cases h
 · omega
theorem Ce{f:aS}(h:aA f=0)(hk:f.kind=4):(bj f.data).err=0:=by
 unfold aA at h
 split at h
 · cases h
 · split at h
   · cases h
   · repeat' split at h
     all_goals first|exact h|omega
theorem DP{f:aS}(h:aA f=0)(hk:f.kind=1):(bK f.data).err=0:=by
 unfold aA at h
 split at h
 · cases h
 · split at h
   · cases h
   · repeat' split at h
     all_goals first|exact h|omega
theorem vF{f:aS}(h:aA f=0)(hk:f.kind=5):1≤f.num∧f.num≤13:=by
 have:=mx h
 unfold cV at this
 rw[if_neg (by omega),if_pos hk]at this
 exact of_decide_eq_true this
theorem VS.done{s:bZ}(h:VS s){c:Int}{t:ByteArray}(hc:aP c t=0):VS (dq s c t):=by
 refine⟨h.id,h.sd,h.sh,h.sn,h.rv,h.rq,h.rs,fun _=>⟨rfl,rfl,hc⟩,fun e=> ?_⟩
 cases e
theorem iQ{s t:bZ}{f:aS}(h:SndOk s f t):VS t:=by
 obtain⟨hv,hf,hi,hd,h⟩:=h
 have v:=fS.1 hv
 obtain⟨n1,n2,n3,n4⟩:=v.nd hd
 cases h with
 |data hk he hm hz hl=>
  have hp:=dH f.data
  have rq:=v.rq
  have rs:=v.rs
  refine⟨v.id,v.sd,v.sh,np v.sn (by omega) hl,v.rv,?_,?_,fun e=> ?_,fun _=> ?_⟩
  · unfold gU at rq ⊢
    unfold iJ at hm
    rcases v.sd with e|e
    · rw[if_pos e]at rq
      rw[if_pos (show(s.side==1)=true by rw[e];rfl)]at hm
      dsimp only;rw[if_pos e];omega
    · rw[if_neg (by omega)]at rq
      dsimp only;rw[if_neg (by omega)];exact rq
  · unfold kl at rs ⊢
    unfold iJ at hm
    rcases v.sd with e|e
    · rw[if_pos e]at rs
      dsimp only;rw[if_pos e];exact rs
    · rw[if_neg (by omega)]at rs
      rw[if_neg (show¬ (s.side==1)=true by rw[e];decide)]at hm
      dsimp only;rw[if_neg (by omega)];omega
  · dsimp only at e;rw[hd]at e;cases e
  · refine⟨n1,fun e=> ?_,n3,n4⟩
    have h2:=n2 e
    unfold gU at h2 ⊢
    split at h2
    · dsimp only;rw[if_pos (by assumption)];omega
    · dsimp only;rw[if_neg (by assumption)];omega
 |fin hk he hs hm=>
  refine⟨v.id,v.sd,v.sh,v.sn,v.rv,v.rq,v.rs,fun e=> ?_,fun _=>⟨?_,fun _=> ?_,n3,n4⟩⟩
  · dsimp only at e;rw[hd]at e;cases e
  · unfold rB at n1 ⊢;dsimp only;rw[if_pos hs]at n1 ⊢;exact n1
  · unfold gU;dsimp only;rw[if_pos hs];exact hm
 |stat hk hs hm=>exact v.done (yf (Ce hf hk))
 |reset hk=>
  have:=vF hf hk
  exact v.done (nl (by omega) (by omega))
structure Kept(s t:bZ):Prop where
 id:t.id=s.id
 sd:t.side=s.side
 sh:t.shape=s.shape
 got:t.got=s.got
 rcv:t.rcv=s.rcv
 sz:t.snd.size=s.snd.size
 hd:t.snd.held=s.snd.held
theorem Kept.refl(s:bZ):Kept s s:=⟨rfl,rfl,rfl,rfl,rfl,rfl,rfl⟩
theorem Kept.trans{a b c:bZ}(h1:Kept a b)(h2:Kept b c):Kept a c:=⟨h2.id.trans h1.id,h2.sd.trans h1.sd,h2.sh.trans h1.sh,h2.got.trans h1.got,h2.rcv.trans h1.rcv,h2.sz.trans h1.sz,h2.hd.trans h1.hd⟩
theorem SndOk.kept{s t:bZ}{f:aS}(h:SndOk s f t):Kept s t:=by
 cases h.h<;>exact⟨rfl,rfl,rfl,rfl,rfl,rfl,rfl⟩
theorem SndOk.done{s t:bZ}{f:aS}(h:SndOk s f t)(hk:f.kind=2∨f.kind=3):t.done=false:=by
 cases h.h with
 |data=>exact h.d
 |fin=>exact h.d
 |stat=>omega
 |reset=>omega
structure More(s t:bZ):Prop where
 id:t.id=s.id
 sd:t.side=s.side
 sh:t.shape=s.shape
 sent:t.sent=s.sent
 se:t.se=s.se
 sz:t.snd.size=s.snd.size
 hd:t.snd.held=s.snd.held
 done:t.done=s.done
 got:s.got≤t.got
 ge:s.ge=true→t.ge=true
 v:VS t
theorem Fg{s:bZ}(h:VS s)(hh:s.snd.held=0):VS (fA s):=by
 have:=aW.1 h.sn
 exact⟨h.id,h.sd,h.sh,aW.2 ⟨this.1,this.2.1,(show(0:Int)≤1048576 by decide),by rw[show(fA s).snd.held=s.snd.held from rfl];omega,(show(1048576:Int)≤1048576 by decide),by show 1048576+s.snd.held≤1048576;omega⟩,h.rv,h.rq,h.rs,h.dn,h.nd⟩
theorem More.early{s t:bZ}(h:More s t)(hs:s.side≠1)(he:dr s=false):dr t=false:=by
 have e2:¬t.side=1:=by rw[h.sd];exact hs
 have hg:=h.got
 have hge:=h.ge
 unfold dr gU kl lI at he ⊢
 rw[if_neg hs,if_neg hs,if_neg hs]at he
 rw[if_neg e2,if_neg e2,if_neg e2,h.sent,h.sh]
 simp only[Bool.or_eq_false_iff,decide_eq_false_iff_not,Bool.and_eq_false_iff,Bool.not_eq_false']at he ⊢
 refine⟨⟨by omega,he.1.2⟩,he.2.imp (fun h=>h) hge⟩
theorem More.send{s t s':bZ}{f:aS}(h:More s t)(hl:f.kind=2→aG f.data≤t.snd.left)(ho:SndOk s f s'):∃t',SndOk t f t'∧(t'.done=true∧s'.done=true∨More s' t'):=by
 have hv:=ho.v
 have hd:=ho.d
 have hm:=h.done
 have base:∀t',FJ t f t'→SndOk t f t':=fun t' hh=>⟨fS.2 h.v,ho.fe,by rw[ho.i,h.id],by rw[h.done,hd],hh⟩
 cases ho.h with
 |data hk he hm2 hz _=>
  have hh:=base _ (.data hk (by rw[h.se,he]) (by rw[h.sent];unfold iJ at hm2 ⊢;rw[h.sd,h.sh];exact hm2) (by rw[h.sz];exact hz) (hl hk))
  exact⟨_,hh,.inr ⟨h.id,h.sd,h.sh,by show t.sent+1=s.sent+1;rw[h.sent],h.se,h.sz,h.hd,h.done,h.got,h.ge,iQ hh⟩⟩
 |fin hk he hs hm2=>
  have hh:=base _ (.fin hk (by rw[h.se,he]) (by rw[h.sd,hs]) (by rw[h.sent,h.sh];exact hm2))
  exact⟨_,hh,.inr ⟨h.id,h.sd,h.sh,h.sent,rfl,h.sz,h.hd,h.done,h.got,h.ge,iQ hh⟩⟩
 |stat hk hs hm2=>
  have hh:=base _ (.stat hk (by rw[h.sd];exact hs) (fun e=>h.early hs (hm2 e)))
  exact⟨_,hh,.inl ⟨rfl,rfl⟩⟩
 |reset hk=>
  have hh:=base _ (.reset hk)
  exact⟨_,hh,.inl ⟨rfl,rfl⟩⟩
theorem More.ful{s t:bZ}(h:More s t)(h0:t.snd.held=0):More (fA s) (fA t):=
 ⟨h.id,h.sd,h.sh,h.sent,h.se,h.sz,h.hd,h.done,h.got,h.ge,Fg h.v h0⟩
theorem oB{s:bZ}{f:aS}(h:s.done=true):(aZ s f).err≠0:=fun e=>by
 have:=(fT e).d
 rw[h]at this;cases this
theorem nt{s:bZ}{f:aS}{l:List aS}(h:s.done=true):(cQ (f::l) s).err≠0:=by
 have h1:(aZ (fA s) f).err≠0:=oB (s:=fA s) h
 rw[cQ,if_pos h1]
 exact h1
theorem fU{s:bZ}{f:aS}{l:List aS}:(cQ (f::l) s).err=0 ↔ (aZ (fA s) f).err=0∧(cQ l (aZ (fA s) f).st).err=0:=by
 rw[cQ]
 by_cases h:(aZ (fA s) f).err=0
 · rw[if_neg (by simpa using h)]
   exact⟨fun e=>⟨h,e⟩,fun e=>e.2⟩
 · rw[if_pos h]
   exact⟨fun e=>absurd e h,fun e=>absurd e.1 h⟩
theorem nu{f:aS}:∀ {l:List aS} {s:bZ},(cQ l s).err=0→(aZ (cQ l s).st f).err=0→(cQ (l++[f]) s).err=0
 | [],s,_,h=>by
  rw[List.nil_append,fU]
  exact⟨h,rfl⟩
 |g::l,s,h1,h2=>by
  rw[fU]at h1
  rw[List.cons_append,fU]
  rw[cQ,if_neg (by simpa using h1.1)]at h2
  exact⟨h1.1,nu h1.2 h2⟩
theorem nv:∀ {l:List aS} {s t:bZ},(∀f∈l,aG f.data≤1048576)→More s t→t.snd.held=0→(cQ l s).err=0→(cQ l t).err=0
 | [],_,_,_,_,_,_=>rfl
 |f::l,s,t,hc,hm,h0,h=>by
  rw[fU]at h ⊢
  obtain⟨t',h1,h2⟩:=(hm.ful h0).send (fun _=>by show _≤(1048576:Int);exact hc f (List.mem_cons_self ..)) (fT h.1)
  have e1:=jR h1
  rw[e1]
  refine⟨rfl,?_⟩
  have hc':=fun x hx=>hc x (List.mem_cons_of_mem f hx)
  rcases h2 with ⟨h2,h3⟩|h2
  · cases l with
    |nil=>rfl
    |cons g l=>exact absurd h.2 (nt h3)
  · refine nv hc' h2 ?_ h.2
    show t'.snd.held=0
    rw[h1.kept.hd];exact h0
theorem nw:∀ {l:List aS} {s:bZ},(cQ l s).err=0→ ∀f∈l,aG f.data≤1048576
 | [],_,_,_,hg=>by cases hg
 |f::l,s,h,g,hg=>by
  rw[fU]at h
  rcases List.mem_cons.1 hg with rfl|hg
  · have:=(eT (fT h.1).fe).1
    unfold aG
    split<;>omega
  · exact nw h.2 g hg
theorem Cf:∀ {l:List aS} {s:bZ},(cQ l s).err=0→ ∀f∈l,aA f=0∧f.strm=s.id
 | [],_,_,_,hg=>by cases hg
 |f::l,s,h,g,hg=>by
  rw[fU]at h
  rcases List.mem_cons.1 hg with rfl|hg
  · exact⟨(fT h.1).fe,(fT h.1).i⟩
  · have:=Cf h.2 g hg
    exact⟨this.1,this.2.trans (fT h.1).kept.id⟩
theorem qH{s:bZ}{f:aS}(v:VS s)(hl:f.kind=2→aG f.data≤s.snd.left)(h:(aZ (fA s) f).err=0):SndOk s f (aZ s f).st∧(aZ s f).err=0∧((aZ s f).st.done=true∧(aZ (fA s) f).st.done=true∨More (aZ (fA s) f).st (aZ s f).st):=by
 have hm:More (fA s) s:=⟨rfl,rfl,rfl,rfl,rfl,rfl,rfl,rfl,Int.le_refl _,fun h=>h,v⟩
 obtain⟨t',h1,h2⟩:=hm.send hl (fT h)
 have e1:=jR h1
 rw[e1]
 exact⟨h1,rfl,h2⟩
end
section
inductive Fh(s:bZ)(f:aS):bZ→Prop
 |old (hd:s.done=true):Fh s f s
 |data (hd:s.done=false) (hk:f.kind=2) (he:s.ge=false) (hm:s.got<iJ s (s.side !=1)) (hz:aG f.data≤s.rcv.size) (hl:aG f.data≤s.rcv.left):Fh s f {s with got:=s.got+1,rcv:=⟨s.rcv.size,s.rcv.left-aG f.data,s.rcv.held+aG f.data⟩}
 |fin (hd:s.done=false) (hk:f.kind=3) (he:s.ge=false) (hs:s.side≠1) (hm:c1 s.shape≤s.got):Fh s f {s with ge:=true}
 |stat (hd:s.done=false) (hk:f.kind=4) (hs:s.side=1) (hm:(bj f.data).code=0→dr s=false):Fh s f (dq s (bj f.data).code (bj f.data).text)
 |reset (hd:s.done=false) (hk:f.kind=5):Fh s f (dq s f.num ⟨#[]⟩)
 |win (hd:s.done=false) (hk:f.kind=6) (hm:f.num≤1048576-s.snd.left-s.snd.held) (hn:1≤f.num):Fh s f {s with snd:=⟨s.snd.size,s.snd.left+f.num,s.snd.held⟩}
structure RcvOk(s:bZ)(f:aS)(t:bZ):Prop where
 v:cY s=true
 fe:aA f=0
 i:f.strm=s.id
 k:2≤f.kind∧f.kind≤6
 h:Fh s f t
theorem vG{s:bZ}{f:aS}(h:(bu s f).err=0):RcvOk s f (bu s f).st:=by
 unfold bu at h ⊢
 split at h
 · cases h
 rename_i g0
 rw[if_neg g0]
 have hv:cY s=true:=by simpa using fun e=>g0 (.inl e)
 have hf:aA f=0:=Decidable.not_not.1 fun e=>g0 (.inr (.inl e))
 have hi:f.strm=s.id:=Decidable.not_not.1 fun e=>g0 (.inr (.inr (.inl e)))
 have hkk:2≤f.kind∧f.kind≤6:=by
  have:=fun e=>g0 (.inr (.inr (.inr e)))
  omega
 refine⟨hv,hf,hi,hkk,?_⟩
 split at h
 · rename_i hd
   rw[if_pos hd]
   exact .old hd
 rename_i hd
 rw[if_neg hd]
 have hd':s.done=false:=eq_false_of_ne_true hd
 split at h
 · rename_i hk
   rw[if_pos hk]
   split at h
   · cases h
   rename_i g1
   rw[if_neg g1]
   split at h
   · cases h
   rename_i g2
   rw[if_neg g2]
   split at h
   · cases h
   rename_i g3
   rw[if_neg g3]
   split at h
   · rename_i g4;exact absurd h g4
   rename_i g4
   rw[if_neg g4]
   obtain⟨_,_,t3,t4⟩:=yh (Decidable.not_not.1 g4)
   rw[t4]
   exact .data hd' hk (eq_false_of_ne_true g1) (by omega) (by omega) t3
 · rename_i hk2
   rw[if_neg hk2]
   split at h
   · rename_i hk
     rw[if_pos hk]
     split at h
     · cases h
     rename_i g1
     rw[if_neg g1]
     split at h
     · cases h
     rename_i g2
     rw[if_neg g2]
     exact .fin hd' hk (eq_false_of_ne_true fun e=>g1 (.inl e)) (fun e=>g1 (.inr e)) (by omega)
   · rename_i hk3
     rw[if_neg hk3]
     split at h
     · rename_i hk
       rw[if_pos hk]
       split at h
       · cases h
       rename_i g1
       rw[if_neg g1]
       split at h
       · cases h
       rename_i g2
       rw[if_neg g2,dU,if_neg (by omega)]
       exact .stat hd' hk (Decidable.not_not.1 g1) (fun e=>eq_false_of_ne_true fun e'=>g2 ⟨e,e'⟩)
     · rename_i hk4
       rw[if_neg hk4]
       split at h
       · rename_i hk
         rw[if_pos hk,dU,if_pos hk]
         exact .reset hd' hk
       · rename_i hk5
         rw[if_neg hk5]
         split at h
         · rename_i g;exact absurd h g
         rename_i g
         rw[if_neg g]
         obtain⟨_,t2,t3,t4⟩:=nm (Decidable.not_not.1 g)
         rw[t4]
         exact .win hd' (by omega) t3 t2
theorem qI{s t:bZ}{f:aS}(h:RcvOk s f t):bu s f=⟨t,0⟩:=by
 obtain⟨hv,hf,hi,hkk,h⟩:=h
 have v:=fS.1 hv
 unfold bu
 rw[if_neg (by rw[hv,hf,hi];simp;omega)]
 have nd:∀ {d},d=false→ ¬d=true:=fun e e'=>by rw[e]at e';cases e'
 cases h with
 |old hd=>rw[if_pos hd]
 |data hd hk he hm hz hl=>
  have ht:=qG v.rv (show 0≤aG f.data by have:=dH f.data;omega) hl
  rw[if_neg (nd hd),if_pos hk,if_neg (nd he),if_neg (by omega),if_neg (by omega),ht,if_neg (by simp)]
 |fin hd hk he hs hm=>rw[if_neg (nd hd),if_neg (by omega),if_pos hk,if_neg (by rintro(e|e);exact nd he e;exact hs e),if_neg (by omega)]
 |stat hd hk hs hm=>rw[if_neg (nd hd),if_neg (by omega),if_neg (by omega),if_pos hk,if_neg (by simpa using hs),if_neg (by rintro⟨e,e'⟩;rw[hm e]at e';cases e'),dU,if_neg (by omega)]
 |reset hd hk=>rw[if_neg (nd hd),if_neg (by omega),if_neg (by omega),if_neg (by omega),if_pos hk,dU,if_pos hk]
 |win hd hk hm hn=>rw[if_neg (nd hd),if_neg (by omega),if_neg (by omega),if_neg (by omega),if_neg (by omega),Cc v.sn hn hm,if_neg (by simp)]
theorem vH{s t:bZ}{f:aS}(h:RcvOk s f t):VS t:=by
 obtain⟨hv,hf,hi,hkk,h⟩:=h
 have v:=fS.1 hv
 cases h with
 |old=>exact v
 |data hd hk he hm hz hl=>
  have hp:=dH f.data
  have rq:=v.rq
  have rs:=v.rs
  obtain⟨n1,n2,n3,n4⟩:=v.nd hd
  refine⟨v.id,v.sd,v.sh,v.sn,tV v.rv (by omega) hl,?_,?_,fun e=> ?_,fun _=> ?_⟩
  · unfold gU at rq ⊢
    unfold iJ at hm
    rcases v.sd with e|e
    · rw[if_pos e]at rq
      dsimp only;rw[if_pos e];exact rq
    · rw[if_neg (by omega)]at rq
      rw[if_pos (show(s.side !=1)=true by rw[e];decide)]at hm
      dsimp only;rw[if_neg (by omega)];omega
  · unfold kl at rs ⊢
    unfold iJ at hm
    rcases v.sd with e|e
    · rw[if_pos e]at rs
      rw[if_neg (show¬ (s.side !=1)=true by rw[e];decide)]at hm
      dsimp only;rw[if_pos e];omega
    · rw[if_neg (by omega)]at rs
      dsimp only;rw[if_neg (by omega)];exact rs
  · dsimp only at e;rw[hd]at e;cases e
  · refine⟨n1,fun e=> ?_,n3,n4⟩
    have h2:=n2 e
    unfold gU at h2 ⊢
    split at h2
    · dsimp only;rw[if_pos (by assumption)];omega
    · dsimp only;rw[if_neg (by assumption)];omega
 |fin hd hk he hs hm=>
  obtain⟨n1,n2,n3,n4⟩:=v.nd hd
  refine⟨v.id,v.sd,v.sh,v.sn,v.rv,v.rq,v.rs,fun e=> ?_,fun _=>⟨?_,fun _=> ?_,n3,n4⟩⟩
  · dsimp only at e;rw[hd]at e;cases e
  · unfold rB at n1 ⊢;dsimp only;rw[if_neg hs]at n1 ⊢;exact n1
  · unfold gU;dsimp only;rw[if_neg hs];exact hm
 |stat hd hk hs hm=>exact v.done (yf (Ce hf hk))
 |reset hd hk=>
  have:=vF hf hk
  exact v.done (nl (by omega) (by omega))
 |win hd hk hm hn=>
  obtain⟨n1,n2,n3,n4⟩:=v.nd hd
  exact⟨v.id,v.sd,v.sh,nr v.sn hn hm,v.rv,v.rq,v.rs,fun e=>(by dsimp only at e;rw[hd]at e;cases e),fun _=>⟨n1,n2,n3,n4⟩⟩
structure Gw(s t:bZ):Prop where
 id:t.id=s.id
 sd:t.side=s.side
 sh:t.shape=s.shape
 sz:t.snd.size=s.snd.size
 hd:t.snd.held=s.snd.held
 rz:t.rcv.size=s.rcv.size
theorem RcvOk.kept{s t:bZ}{f:aS}(h:RcvOk s f t):Gw s t:=by
 cases h.h<;>exact⟨rfl,rfl,rfl,rfl,rfl,rfl⟩
theorem RcvOk.more{s t:bZ}{f:aS}(h:RcvOk s f t)(hd:t.done=false):More s t:=by
 have v:=vH h
 cases h.h with
 |old hd'=>exact⟨rfl,rfl,rfl,rfl,rfl,rfl,rfl,rfl,Int.le_refl _,fun h=>h,v⟩
 |data hd' hk he hm hz hl=>exact⟨rfl,rfl,rfl,rfl,rfl,rfl,rfl,rfl,by show s.got≤s.got+1;omega,fun h=>h,v⟩
 |fin hd' hk he hs hm=>exact⟨rfl,rfl,rfl,rfl,rfl,rfl,rfl,rfl,Int.le_refl _,fun _=>rfl,v⟩
 |stat=>cases hd
 |reset=>cases hd
 |win hd' hk hm hn=>exact⟨rfl,rfl,rfl,rfl,rfl,rfl,rfl,rfl,Int.le_refl _,fun h=>h,v⟩
theorem RcvOk.keepDone{s t:bZ}{f:aS}(h:RcvOk s f t)(hd:s.done=true):t=s:=by
 cases h.h with
 |old=>rfl
 |data hd'=>rw[hd]at hd';cases hd'
 |fin hd'=>rw[hd]at hd';cases hd'
 |stat hd'=>rw[hd]at hd';cases hd'
 |reset hd'=>rw[hd]at hd';cases hd'
 |win hd'=>rw[hd]at hd';cases hd'
theorem iy(f:aS):0≤bF f:=by
 unfold bF
 have:=dH f.data
 split<;>omega
theorem ej{f:aS}(h:f.kind=2):bF f=aG f.data:=by unfold bF;rw[if_pos h]
def kq(l:List aS):Int:=(l.map bF).sum
theorem kr:kq []=0:=rfl
theorem lb(f:aS)(l:List aS):kq (f::l)=bF f+kq l:=by unfold kq;simp
theorem qJ:∀l:List aS,0≤kq l
 | []=>Int.le_refl _
 |f::l=>by rw[lb];have:=qJ l;have:=iy f;omega
def DQ(w:bk)(n:Int):bk:=⟨w.size,w.left-n,w.held⟩
inductive Fi:List aS→bZ→bk→List aS→bZ→bk→List aS→Prop
 |nil {s:bZ} {w:bk}:Fi [] s w [] s w []
 |stop {f:aS} {r:List aS} {s:bZ} {w:bk} (h:s.snd.left<bF f∨w.left<bF f):Fi (f::r) s w [] s w (f::r)
 |step {f:aS} {r q rest:List aS} {s t s':bZ} {w w':bk} (h1:bF f≤s.snd.left) (h2:bF f≤w.left) (h3:SndOk s f t) (h4:Fi r t (DQ w (bF f)) q s' w' rest):Fi (f::r) s w (f::q) s' w' rest
theorem qK{s t:bZ}{f:aS}{r:List aS}(v:VS s)(h0:s.snd.held=0)(hl:bF f≤s.snd.left)(h:(cQ (f::r) s).err=0)(ht:SndOk s f t):(cQ r t).err=0∧(t.done=true→r=[]):=by
 rw[fU]at h
 obtain⟨_,h2,h3⟩:=qH v (fun hk=>by rw[←ej hk];exact hl) h.1
 rw[jR ht]at h3
 dsimp only at h3
 have hr:t.done=true→r=[]:=fun hd=>by
  have h4:(aZ (fA s) f).st.done=true:=by
   rcases h3 with h3|h3
   · exact h3.2
   · rw[←h3.done];exact hd
  cases r with
  |nil=>rfl
  |cons g r=>exact absurd h.2 (nt h4)
 refine⟨?_,hr⟩
 rcases h3 with h3|h3
 · rw[hr h3.1];rfl
 · exact nv (nw h.2) h3 (by rw[ht.kept.hd];exact h0) h.2
theorem Cg:∀ (l:List aS) (s:bZ) (w:bk) (o:List aS),VS s→s.snd.held=0→bi w=true→(cQ l s).err=0→ ∃q,Fi l s w q (js l s w o).st (js l s w o).w (js l s w o).ob∧(js l s w o).ou=o++q
 | [],s,w,o,_,_,_,_=>⟨[],.nil,by rw[js];simp⟩
 |f::r,s,w,o,v,h0,hw,h=>by
  rw[js]
  by_cases hA:s.snd.left<bF f∨w.left<bF f
  · rw[if_pos hA]
    exact⟨[],.stop hA,by simp⟩
  have h1:bF f≤s.snd.left:=by omega
  have h2:bF f≤w.left:=by omega
  obtain⟨g1,g2,_⟩:=qH v (fun hk=>by rw[←ej hk];exact h1) (fU.1 h).1
  obtain⟨g3,g4⟩:=qK v h0 h1 h g1
  have ht:=fL hw (iy f) h2
  have hw':bi (DQ w (bF f))=true:=np hw (iy f) h2
  rw[if_neg hA,if_neg (by rw[g2];simp),if_neg (by rw[ht];simp),ht]
  dsimp only
  cases hd:(aZ s f).st.done with
  |true=>
   rw[if_pos rfl]
   rw[g4 hd]
   exact⟨[f],.step h1 h2 g1 .nil,rfl⟩
  |false=>
   rw[if_neg (by simp)]
   obtain⟨q,i1,i2⟩:=Cg r (aZ s f).st (DQ w (bF f)) (o++[f]) (iQ g1) (by rw[g1.kept.hd];exact h0) hw' g3
   exact⟨f::q,.step h1 h2 g1 i1,by rw[show(⟨w.size,w.left-bF f,w.held⟩:bk)=DQ w (bF f)from rfl,i2];simp⟩
structure Gx(l:List aS)(s:bZ)(w:bk)(q:List aS)(s':bZ)(w':bk)(rest:List aS):Prop where
 vs:VS s'
 kp:Kept s s'
 wk:bi w'=true
 ws:w'.size=w.size
 wh:w'.held=w.held
 wl:w'.left=w.left-kq q
 sp:l=q++rest
 ah:(cQ rest s').err=0
 st:∀f r,rest=f::r→s'.snd.left<bF f∨w'.left<bF f
 dn:s'.done=true→rest=[]
 fr:∀f∈q,aA f=0∧f.strm=s.id
 sl:s'.snd.left=s.snd.left-kq q
theorem zE:∀ {l:List aS} {s:bZ} {w:bk} {q:List aS} {s':bZ} {w':bk} {rest:List aS},Fi l s w q s' w' rest→VS s→s.snd.held=0→bi w=true→(cQ l s).err=0→(∀f∈l,f.kind=2∨f.kind=3∨f.kind=4)→Gx l s w q s' w' rest:=by
 intro l s w q s' w' rest h
 induction h with
 |nil=>intro v h0 hw ha hk;exact⟨v,Kept.refl _,hw,rfl,rfl,by rw[kr];omega,rfl,ha,fun f r e=>(by cases e),fun _=>rfl,fun f hf=>(by cases hf),by rw[kr];omega⟩
 | @stop f r s w hst=>
  intro v h0 hw ha hk
  refine⟨v,Kept.refl _,hw,rfl,rfl,by rw[kr];omega,rfl,ha,fun g r' e=> ?_,fun hd=>absurd ha (nt hd),fun f hf=>(by cases hf),by rw[kr];omega⟩
  obtain⟨rfl,rfl⟩:=(by simpa using e:f=g∧r=r')
  exact hst
 | @step f r q rest s t s' w w' h1 h2 h3 h4 ih=>
  intro v h0 hw ha hk
  obtain⟨g1,g2⟩:=qK v h0 h1 ha h3
  have i:=ih (iQ h3) (by rw[h3.kept.hd];exact h0) (np hw (iy f) h2) g1 (fun x hx=>hk x (List.mem_cons_of_mem _ hx))
  have wl:=i.wl
  have sl:=i.sl
  refine⟨i.vs,h3.kept.trans i.kp,i.wk,i.ws,i.wh,?_,by rw[i.sp];rfl,i.ah,i.st,i.dn,fun x hx=> ?_,?_⟩
  · rw[lb]
    show w'.left=_
    rw[wl]
    show w.left-bF f-kq q=_
    omega
  · rcases List.mem_cons.1 hx with rfl|hx
    · exact⟨h3.fe,h3.i⟩
    · exact⟨(i.fr x hx).1,(i.fr x hx).2.trans h3.kept.id⟩
  · rw[lb,sl]
    have e:t.snd.left=s.snd.left-bF f:=by
     have hkf:=hk f (List.mem_cons_self ..)
     cases h3.h with
     |data hk=>rw[ej hk]
     |fin hk=>rw[bF,if_neg (by omega)];show s.snd.left=_;omega
     |stat hk=>rw[bF,if_neg (by omega)];show s.snd.left=_;omega
     |reset hk=>omega
    omega
end
section
structure PK(sd sz la:Int)(k:KR):Prop where
 vs:VS k.st
 sd:k.st.side=sd
 z1:k.st.snd.size=sz
 z2:k.st.rcv.size=sz
 h0:k.st.snd.held=0
 he:bG k.hd=0
 ib:∀m∈k.ib,m.size≤16384
 la:k.st.id≤la
 dn:k.st.done=true→k.ob=[]
 un:k.st.done=false→aT k.ib≤k.st.rcv.held
 ah:k.st.done=false→(cQ k.ob k.st).err=0
 kd:∀f∈k.ob,f.kind=2∨f.kind=3∨f.kind=4
def NF(sw:bk)(k:KR):Prop:= ∀f r,k.ob=f::r→k.st.snd.left<bF f∨sw.left<bF f
theorem PK.ahd{sd sz la:Int}{k:KR}(h:PK sd sz la k):(cQ k.ob k.st).err=0:=by
 cases hd:k.st.done with
 |true=>rw[h.dn hd];rfl
 |false=>exact h.ah hd
theorem PK.la'{sd sz la la':Int}{k:KR}(h:PK sd sz la k)(hl:la≤la'):PK sd sz la' k:=⟨h.vs,h.sd,h.z1,h.z2,h.h0,h.he,h.ib,Int.le_trans h.la hl,h.dn,h.un,h.ah,h.kd⟩
structure VB(c:NL):Prop where
 sd:c.sd=1∨c.sd=2
 sz:1≤c.sz∧c.sz≤1048576
 sw:bi c.sw=true
 rw:bi c.rw=true
 ss:c.sw.size=c.sz
 rs:c.rw.size=c.sz
 sh:c.sw.held=0
 la:0≤c.la∧c.la≤2147483647
 aw:0≤c.aw∧c.aw≤2147483648
 n1:c.sd=1→c.nx=c.la+1
 n2:c.sd=2→c.nx=1∧c.aw≤c.la+1
 pg:c.pg.length≤16
 pn:∀n∈c.pg,0≤n∧n≤4294967295
 cn:cP c.ks≤64
 pk:∀k∈c.ks,PK c.sd c.sz c.la k
 asc:(c.ks.map (·.st.id)).Pairwise (· < ·)
 ou:∀f∈c.ou,aA f=0
 cl:c.cl=true→c.ou=[]∧cP c.ks=0
 tt:ba c.ks≤c.rw.held
structure VN(c:NL):Prop extends VB c where
 nf:∀k∈c.ks,NF c.sw k
theorem dX:∀l:List ByteArray,0≤aT l
 | []=>Int.le_refl _
 |s::r=>by rw[aT];have:=dX r;have:=dH s;omega
theorem iR(s:ByteArray):∀l:List ByteArray,aT (l++[s])=aT l+aG s
 | []=>by simp[aT]
 |a::r=>by rw[List.cons_append,aT,iR s r,aT];omega
theorem ep:∀l:List KR,0≤ba l
 | []=>Int.le_refl _
 |k::r=>by rw[ba];have:=ep r;have:=dX k.ib;omega
theorem vI:∀a b:List KR,ba (a++b)=ba a+ba b
 | [],b=>by simp[ba]
 |k::a,b=>by rw[List.cons_append,ba,vI a b,ba];omega
theorem cZ{k' k:KR}:∀ {l:List KR} {i:Nat},l[i]? =some k→ba (l.set i k')=ba l-aT k.ib+aT k'.ib
 |a::l,0,h=>by
  obtain rfl:=(by simpa using h:a=k)
  rw[List.set_cons_zero,ba,ba];omega
 |a::l,i+1,h=>by
  have h1:l[i]? =some k:=by simpa using h
  rw[List.set_cons_succ,ba,cZ h1,ba];omega
theorem ku{k:KR}:∀ {l:List KR} {i:Nat},l[i]? =some k→ba (l.eraseIdx i)=ba l-aT k.ib
 |a::l,0,h=>by
  obtain rfl:=(by simpa using h:a=k)
  rw[List.eraseIdx_cons_zero,ba];omega
 |a::l,i+1,h=>by
  have h1:l[i]? =some k:=by simpa using h
  rw[List.eraseIdx_cons_succ,ba,ku h1,ba];omega
theorem yi{k' k:KR}(hd:k.st.done=true→k'.st.done=true):∀ {l:List KR} {i:Nat},l[i]? =some k→cP (l.set i k')≤cP l
 |a::l,0,h=>by
  obtain rfl:=(by simpa using h:a=k)
  rw[List.set_cons_zero]
  unfold cP
  rw[List.countP_cons,List.countP_cons]
  cases h1:a.st.done with
  |true=>rw[hd h1];simp
  |false=>simp;split<;>omega
 |a::l,i+1,h=>by
  have h1:l[i]? =some k:=by simpa using h
  have:=yi hd h1
  unfold cP at this ⊢
  rw[List.set_cons_succ,List.countP_cons,List.countP_cons]
  omega
theorem xh{k' k:KR}(hid:k'.st.id=k.st.id){l:List KR}{i:Nat}(h:l[i]? =some k):(l.set i k').map (·.st.id)=l.map (·.st.id):=by
 rw[List.map_set,hid]
 obtain⟨h1,h2⟩:=List.getElem?_eq_some_iff.1 h
 apply List.ext_getElem?
 intro j
 by_cases hj:i=j
 · subst hj
   rw[List.getElem?_set_self (by rw[List.length_map];exact h1),List.getElem?_map,h];rfl
 · rw[List.getElem?_set_ne hj]
theorem vJ{k' x:KR}{l:List KR}{i:Nat}(h:x∈l.set i k'):x=k'∨x∈l:=by
 rcases List.mem_or_eq_of_mem_set h with h|h
 · exact .inr h
 · exact .inl h
theorem VB.upd{c:NL}(h:VB c){i:Nat}{k k':KR}(hi:c.ks[i]? =some k)(hp:PK c.sd c.sz c.la k')(hid:k'.st.id=k.st.id)(hdn:k.st.done=true→k'.st.done=true){sw' rw':bk}{ou':List aS}
 (w1:bi sw'=true) (w2:sw'.size=c.sz) (w3:sw'.held=0) (r1:bi rw'=true) (r2:rw'.size=c.sz) (ho:∀f∈ou',aA f=0) (hcl:c.cl=true→ou'=[]) (ht:ba (c.ks.set i k')≤rw'.held):
 VB {c with sw:=sw',rw:=rw',ks:=c.ks.set i k',ou:=ou'}:=by
 have hc:=yi hdn hi
 exact ⟨h.sd,h.sz,w1,r1,w2,r2,w3,h.la,h.aw,h.n1,h.n2,h.pg,h.pn,Nat.le_trans hc h.cn,fun x hx=>(vJ hx).elim (fun e=>e ▸ hp) (h.pk x),by
  show((c.ks.set i k').map (·.st.id)).Pairwise (· < ·)
  rw[xh hid hi];exact h.asc,ho,fun e=>⟨hcl e,by have:=(h.cl e).2;show cP (c.ks.set i k')=0;omega⟩,ht⟩
theorem NF.less{sw sw':bk}{k:KR}(h:NF sw k)(hl:sw'.left≤sw.left):NF sw' k:=fun f r e=>(h f r e).imp id (fun h=>by omega)
theorem VN.upd{c:NL}(h:VN c){i:Nat}{k k':KR}(hi:c.ks[i]? =some k)(hp:PK c.sd c.sz c.la k')(hid:k'.st.id=k.st.id)(hdn:k.st.done=true→k'.st.done=true){sw' rw':bk}{ou':List aS}
 (w1:bi sw'=true) (w2:sw'.size=c.sz) (w3:sw'.held=0) (w4:sw'.left≤c.sw.left) (hn:NF sw' k') (r1:bi rw'=true) (r2:rw'.size=c.sz) (ho:∀f∈ou',aA f=0) (hcl:c.cl=true→ou'=[]) (ht:ba (c.ks.set i k')≤rw'.held):
 VN {c with sw:=sw',rw:=rw',ks:=c.ks.set i k',ou:=ou'}:=
 ⟨h.toVB.upd hi hp hid hdn w1 w2 w3 r1 r2 ho hcl ht,fun x hx=>(vJ hx).elim (fun e=>e ▸ hn) (fun hx=>(h.nf x hx).less w4)⟩
theorem cF{c:NL}{i:Nat}{k:KR}(h:c.ks[i]? =some k):iU c i=k:=by unfold iU;rw[h];rfl
theorem bC{c:NL}{i:Nat}{k:KR}(h:c.ks[i]? =some k)(g:KR→KR):fi c i g={c with ks:=c.ks.set i (g k)}:=by unfold fi;rw[cF h]
theorem yj{c:NL}(h:VB c)(hc:c.cl=true):∀k∈c.ks,k.st.done=true:=fun k hk=>by
 have h1:=(h.cl hc).2
 unfold cP at h1
 have:=List.countP_eq_zero.1 h1 k hk
 simpa using this
structure Hr(c:NL)(k:KR)(q:List aS)(r:FF):Prop where
 run:Fi k.ob k.st c.sw q r.st r.w r.ob
 fac:Gx k.ob k.st c.sw q r.st r.w r.ob
 ou:r.ou=c.ou++q
 pk:PK c.sd c.sz c.la {k with st:=r.st,ob:=r.ob}
 nf:NF r.w {k with st:=r.st,ob:=r.ob}
 dn:k.st.done=true→r.st.done=true∧q=[]
theorem ym{c:NL}{k:KR}(hw:bi c.sw=true)(h:PK c.sd c.sz c.la k):∃q,Hr c k q (js k.ob k.st c.sw c.ou):=by
 obtain⟨q,hr,ho⟩:=Cg k.ob k.st c.sw c.ou h.vs h.h0 hw h.ahd
 have hf:=zE hr h.vs h.h0 hw h.ahd h.kd
 have hdn:k.st.done=true→(js k.ob k.st c.sw c.ou).st.done=true∧q=[]:=fun hd=>by
  have e:=h.dn hd
  rw[e]
  refine⟨hd,?_⟩
  rw[e,js]at hr
  cases hr;rfl
 generalize js k.ob k.st c.sw c.ou=r at *
 refine⟨q,hr,hf,ho,?_,hf.st,hdn⟩
 refine⟨hf.vs,by rw[←h.sd];exact hf.kp.sd,by rw[←h.z1];exact hf.kp.sz,by rw[←h.z2];show r.st.rcv.size=_;rw[hf.kp.rcv],by rw[←h.h0];exact hf.kp.hd,h.he,h.ib,by rw[show({k with st:=r.st,ob:=r.ob}:KR).st.id=k.st.id from hf.kp.id];exact h.la,hf.dn,fun hd=> ?_,fun _=>hf.ah,fun f hx=>h.kd f (by rw[hf.sp];exact List.mem_append_right _ hx)⟩
 show aT k.ib≤r.st.rcv.held
 rw[hf.kp.rcv]
 cases hd0:k.st.done with
 |true=>rw[(hdn hd0).1]at hd;cases hd
 |false=>exact h.un hd0
theorem gC{c:NL}{i:Nat}{k:KR}(h:c.ks[i]? =some k):eW c i={c with sw:=(js k.ob k.st c.sw c.ou).w,ks:=c.ks.set i {k with st:=(js k.ob k.st c.sw c.ou).st,ob:=(js k.ob k.st c.sw c.ou).ob},ou:=(js k.ob k.st c.sw c.ou).ou}:=by
 unfold eW yU
 rw[cF h,bC h]
theorem VB.son{c:NL}(h:VB c){i:Nat}{k:KR}(hi:c.ks[i]? =some k):VB (eW c i)∧(eW c i).sw.left≤c.sw.left∧(∀k',(eW c i).ks[i]? =some k'→NF (eW c i).sw k'):=by
 have hk:=h.pk k (List.mem_of_getElem? hi)
 obtain⟨q,hf⟩:=ym h.sw hk
 rw[gC hi]
 generalize js k.ob k.st c.sw c.ou=r at *
 have hq:=qJ q
 have hl:=hf.fac.wl
 refine⟨?_,?_,fun k' h'=> ?_⟩
 · refine h.upd (rw':=c.rw) hi hf.pk hf.fac.kp.id (fun e=>(hf.dn e).1) hf.fac.wk (by rw[hf.fac.ws];exact h.ss) (by rw[hf.fac.wh];exact h.sh) h.rw h.rs (fun f hx=> ?_) (fun e=> ?_) ?_
   · rw[hf.ou]at hx
     rcases List.mem_append.1 hx with hx|hx
     · exact h.ou f hx
     · exact(hf.fac.fr f hx).1
   · have hd:=yj h e k (List.mem_of_getElem? hi)
     rw[hf.ou,(hf.dn hd).2,(h.cl e).1];rfl
   · rw[cZ hi]
     have:=h.tt
     show ba c.ks-aT k.ib+aT k.ib≤c.rw.held
     omega
 · show r.w.left≤c.sw.left;omega
 · have h1:i<c.ks.length:=(List.getElem?_eq_some_iff.1 hi).1
   have h2:(c.ks.set i {k with st:=r.st,ob:=r.ob})[i]? =some k':=h'
   rw[List.getElem?_set_self h1]at h2
   obtain rfl:=Option.some.inj h2
   exact hf.nf
theorem VN.son{c:NL}(h:VB c){i:Nat}{k:KR}(hi:c.ks[i]? =some k)(hn:∀j k',j≠i→c.ks[j]? =some k'→NF c.sw k'):VN (eW c i):=by
 obtain⟨h1,h2,h3⟩:=h.son hi
 refine⟨h1,fun x hx=> ?_⟩
 obtain⟨j,hj⟩:=List.getElem?_of_mem hx
 by_cases e:j=i
 · subst e;exact h3 x hj
 · refine(hn j x e ?_).less h2
   rw[gC hi]at hj
   rw[←hj]
   exact(List.getElem?_set_ne (fun e'=>e e'.symm)).symm
end
section
theorem Ik{id n:Int}(h0:0≤id)(h1:id≤2147483647)(h2:1≤n)(h3:n≤1048576):aA ⟨6,id,n,emptyB⟩=0:=by
 unfold aA bW cV db
 have e:emptyB.size=0:=rfl
 simp[e];omega
theorem G9{id n:Int}(h0:1≤id)(h1:id≤2147483647)(h2:1≤n)(h3:n≤13):aA ⟨5,id,n,emptyB⟩=0:=by
 unfold aA bW cV db
 have e:emptyB.size=0:=rfl
 simp[e];omega
theorem IF{n:Int}(h2:0≤n)(h3:n≤2147483647):aA ⟨9,0,n,emptyB⟩=0:=by
 unfold aA bW cV db
 have e:emptyB.size=0:=rfl
 simp[e];omega
theorem IG{n:Int}(h2:0≤n)(h3:n≤4294967295):aA ⟨8,0,n,emptyB⟩=0:=by
 unfold aA bW cV db
 have e:emptyB.size=0:=rfl
 simp[e];omega
theorem dg{id:Int}{l:List KR}{i:Nat}(h:bX id l 0=some i):∃k,l[i]? =some k∧k.st.id=id:=by
 have key:∀ (l:List KR) (a i:Nat),bX id l a=some i→a≤i∧ ∃k,l[i-a]? =some k∧k.st.id=id:=by
  intro l
  induction l with
  |nil=>intro a i h;cases h
  |cons k r ih=>
   intro a i h
   unfold bX at h
   split at h
   · obtain rfl:=(by simpa using h:a=i)
     exact⟨Nat.le_refl _,k,by simp,by assumption⟩
   · obtain⟨h1,k',h2,h3⟩:=ih (a+1) i h
     refine⟨by omega,k',?_,h3⟩
     rw[show i-a=i - (a+1)+1 by omega]
     simpa using h2
 obtain⟨_,h2⟩:=key l 0 i h
 exact h2
theorem jj{w:bk}(h:bi w=true){u:Int}(_h0:0≤u)(h1:u≤w.held):0≤dD w u∧dD w u≤w.held-u:=by
 have:=aW.1 h
 unfold dD
 split
 · omega
 · unfold yT
   split
   · omega
   · dsimp only;omega
theorem Ch{w:bk}(h:bi w=true){u:Int}(h0:0≤u)(h1:u≤w.held):bi (xO w (dD w u))=true:=by
 obtain⟨a,b⟩:=jj h h0 h1
 have:=aW.1 h
 rw[aW]
 unfold xO
 dsimp only
 omega
theorem VN.gbC{c:NL}(h:VN c):VN (gbC c):=by
 unfold Y.gbC
 split
 · exact h
 · rename_i hn
   have hcl:c.cl=false:=eq_false_of_ne_true fun e=>hn (.inl e)
   have h0:0<dD c.rw (ba c.ks):=by have:=fun e=>hn (.inr e);omega
   obtain⟨a,b⟩:=jj h.rw (ep c.ks) h.tt
   have:=aW.1 h.rw
   have hp:=ep c.ks
   refine⟨⟨h.sd,h.sz,h.sw,Ch h.rw (ep c.ks) h.tt,h.ss,h.rs,h.sh,h.la,h.aw,h.n1,h.n2,h.pg,h.pn,h.cn,h.pk,h.asc,fun f hf=> ?_,fun e=> ?_,?_⟩,h.nf⟩
   · rcases List.mem_append.1 hf with hf|hf
     · exact h.ou f hf
     · obtain rfl:=List.mem_singleton.1 hf
       exact Ik (Int.le_refl _) (by omega) (by omega) (by omega)
   · dsimp only at e;rw[hcl]at e;cases e
   · show ba c.ks≤(xO c.rw (dD c.rw (ba c.ks))).held
     unfold xO;dsimp only;omega
theorem PK.rcv{sd sz la:Int}{k:KR}(h:PK sd sz la k){w:bk}(hw:bi w=true)(hz:w.size=k.st.rcv.size){ib:List ByteArray}(hib:∀m∈ib,m.size≤16384)(hu:k.st.done=false→aT ib≤w.held):PK sd sz la {k with st:={k.st with rcv:=w},ib:=ib}:=by
 have hv:VS {k.st with rcv:=w}:=⟨h.vs.id,h.vs.sd,h.vs.sh,h.vs.sn,hw,h.vs.rq,h.vs.rs,h.vs.dn,h.vs.nd⟩
 refine⟨hv,h.sd,h.z1,hz.trans h.z2,h.h0,h.he,hib,h.la,h.dn,hu,fun hd=> ?_,h.kd⟩
 exact nv (s:=k.st) (nw h.ahd) ⟨rfl,rfl,rfl,rfl,rfl,rfl,rfl,rfl,Int.le_refl _,fun h=>h,hv⟩ h.h0 (PK.ahd (k:=k) h)
theorem VN.gbK{c:NL}(h:VN c){i:Nat}{k:KR}(hi:c.ks[i]? =some k)(hd:k.st.done=false):VN (gbK c i k.st.id)∧(gbK c i k.st.id).ks.map (fun k=>(k.ib,k.st.done))=c.ks.map (fun k=>(k.ib,k.st.done)):=by
 have hk:=h.pk k (List.mem_of_getElem? hi)
 unfold Y.gbK
 rw[show rC c i=dD k.st.rcv (aT k.ib)by unfold rC;rw[cF hi]]
 split
 · exact⟨h,rfl⟩
 · rename_i hn
   have hcl:c.cl=false:=eq_false_of_ne_true fun e=>hn (.inl e)
   have h0:0<dD k.st.rcv (aT k.ib):=by have:=fun e=>hn (.inr e);omega
   obtain⟨a,b⟩:=jj hk.vs.rv (dX k.ib) (hk.un hd)
   have:=aW.1 hk.vs.rv
   have hp:=dX k.ib
   rw[bC hi]
   refine⟨h.upd (sw':=c.sw) (rw':=c.rw) hi (hk.rcv (Ch hk.vs.rv hp (hk.un hd)) rfl hk.ib (fun _=> ?_)) rfl (fun e=>e) h.sw h.ss h.sh (Int.le_refl _) (h.nf k (List.mem_of_getElem? hi)) h.rw h.rs (fun f hf=> ?_) (fun e=> ?_) ?_,?_⟩
   · unfold xO;dsimp only;omega
   · rcases List.mem_append.1 hf with hf|hf
     · exact h.ou f hf
     · obtain rfl:=List.mem_singleton.1 hf
       have:=hk.vs.id
       exact Ik (by omega) (by omega) (by omega) (by omega)
   · rw[hcl]at e;cases e
   · rw[cZ hi]
     have:=h.tt
     show ba c.ks-aT k.ib+aT k.ib≤c.rw.held
     omega
   · show(c.ks.set i _).map _=_
     rw[List.map_set]
     obtain⟨h1,h2⟩:=List.getElem?_eq_some_iff.1 hi
     apply List.ext_getElem?
     intro j
     by_cases hj:i=j
     · subst hj
       rw[List.getElem?_set_self (by rw[List.length_map];exact h1),List.getElem?_map,hi];rfl
     · rw[List.getElem?_set_ne hj]
theorem VN.new{sd sz:Int}(h:(fG sd sz).2=0):VN (fG sd sz).1:=by
 unfold fG at h ⊢
 split at h
 · cases h
 · rename_i g
   rw[if_neg g]
   have g1:sd=1∨sd=2:=by have:=fun e=>g (.inl e);omega
   have g2:(gT sz).err=0:=Decidable.not_not.1 fun e=>g (.inr e)
   have g3:1≤sz∧sz≤1048576∧gT sz=⟨⟨sz,sz,0⟩,0⟩:=by
    unfold gT at g2 ⊢
    split at g2
    · cases g2
    · rename_i g'
      rw[if_neg g']
      exact⟨by omega,by omega,rfl⟩
   obtain⟨z1,z2,z3⟩:=g3
   rw[z3]
   have hw:bi ⟨sz,sz,0⟩=true:=aW.2 ⟨z1,z2,by dsimp only;omega,Int.le_refl _,z2,by dsimp only;omega⟩
   exact⟨⟨g1,⟨z1,z2⟩,hw,hw,rfl,rfl,rfl,⟨Int.le_refl _,(show(0:Int)≤2147483647 by decide)⟩,⟨Int.le_refl _,(show(0:Int)≤2147483648 by decide)⟩,fun _=>rfl,fun _=>⟨rfl,(show(0:Int)≤1 by decide)⟩,Nat.zero_le _,(fun _ h=>by cases h),Nat.zero_le _,(fun _ h=>by cases h),List.Pairwise.nil,(fun _ h=>by cases h),fun _=>⟨rfl,rfl⟩,Int.le_refl _⟩,fun _ h=>by cases h⟩
theorem VN.flush{c:NL}(h:VN c):VN (kD c).1:=
 ⟨⟨h.sd,h.sz,h.sw,h.rw,h.ss,h.rs,h.sh,h.la,h.aw,h.n1,h.n2,h.pg,h.pn,h.cn,h.pk,h.asc,(fun _ h=>by cases h),fun e=>⟨rfl,(h.cl e).2⟩,h.tt⟩,h.nf⟩
theorem VN.out{c:NL}(h:VN c){f:aS}(hf:aA f=0)(hc:c.cl=false):VN {c with ou:=c.ou++[f]}:=
 ⟨⟨h.sd,h.sz,h.sw,h.rw,h.ss,h.rs,h.sh,h.la,h.aw,h.n1,h.n2,h.pg,h.pn,h.cn,h.pk,h.asc,fun x hx=>(List.mem_append.1 hx).elim (h.ou x) (fun hx=>by obtain rfl:=List.mem_singleton.1 hx;exact hf),(fun e=>by dsimp only at e;rw[hc]at e;cases e),h.tt⟩,h.nf⟩
theorem VN.ping{c:NL}(h:VN c)(n:Int):VN (eE c n).1:=by
 unfold eE
 split
 · exact h
 · rename_i hc
   split
   · exact h
   · rename_i hf
     exact h.out (Decidable.not_not.1 hf) (eq_false_of_ne_true hc)
theorem VN.away{c:NL}(h:VN c):VN (iK c):=by
 unfold iK
 split
 · rename_i hc
   have h1:=h.out (f:=⟨9,0,c.la,emptyB⟩) (IF h.la.1 h.la.2) hc.2.1
   have hla:=h.la
   exact⟨⟨h1.sd,h1.sz,h1.sw,h1.rw,h1.ss,h1.rs,h1.sh,h1.la,⟨by show 0≤c.la+1;omega,by show c.la+1≤2147483648;omega⟩,h1.n1,fun e=>⟨(h1.n2 e).1,Int.le_refl _⟩,h1.pg,h1.pn,h1.cn,h1.pk,h1.asc,h1.ou,h1.cl,h1.tt⟩,h1.nf⟩
 · exact h
theorem yn{sd sz la above:Int}{k:KR}(h:PK sd sz la k):PK sd sz la (gv above k)∧(gv above k).st.id=k.st.id∧(k.st.done=true→gv above k=k)∧(gv above k).ib=k.ib∧(above<k.st.id→(gv above k).st.done=true)∧(k.st.id≤above→gv above k=k)∧(gv above k=k∨(gv above k).ob=[]):=by
 unfold gv
 split
 · rename_i hc
   have he:ml k.st 12 emptyB=dq k.st 12 emptyB:=by
    unfold ml
    rw[if_neg]
    rintro(e|e|e)
    · rw[hc.1]at e;cases e
    · rw[fS.2 h.vs]at e;cases e
    · exact e (nl (by decide) (by decide))
   rw[he]
   unfold dE
   rw[if_pos (show({k with st:=dq k.st 12 emptyB}:KR).st.done=true from rfl)]
   exact⟨⟨h.vs.done (nl (by decide) (by decide)),h.sd,h.z1,h.z2,h.h0,h.he,h.ib,h.la,fun _=>rfl,(fun e=>by cases e),(fun e=>by cases e),fun _ h=>by cases h⟩,rfl,fun e=>absurd e (by rw[hc.1];simp),rfl,fun _=>rfl,fun e=>absurd hc.2 (by omega),.inr rfl⟩
 · rename_i hc
   refine⟨h,rfl,fun _=>rfl,rfl,fun e=> ?_,fun _=>rfl,.inl rfl⟩
   cases hd:k.st.done with
   |true=>rfl
   |false=>exact absurd ⟨hd,e⟩ hc
theorem yo{c:NL}(h:VN c)(above:Int):VN (oe c above):=by
 have hp:=fun k hk=>yn (above:=above) (h.pk k hk)
 have hmap:(c.ks.map (gv above)).map (·.st.id)=c.ks.map (·.st.id):=by
  rw[List.map_map]
  exact List.map_congr_left fun k hk=>(hp k hk).2.1
 have hcnt:cP (c.ks.map (gv above))≤cP c.ks:=by
  unfold cP
  rw[List.countP_map]
  refine List.countP_mono_left fun k hk hd=> ?_
  cases hd':k.st.done with
  |false=>rfl
  |true=>
   have:=(hp k hk).2.2.1 hd'
   simp only[Function.comp,this,hd']at hd
   exact absurd hd (by decide)
 have htot:∀l:List KR,(∀k∈l,(gv above k).ib=k.ib)→ba (l.map (gv above))=ba l:=by
  intro l
  induction l with
  |nil=>intro _;rfl
  |cons k r ih=>
   intro hx
   rw[List.map_cons,ba,ba,ih (fun x hxm=>hx x (List.mem_cons_of_mem _ hxm)),hx k (List.mem_cons_self ..)]
 refine⟨⟨h.sd,h.sz,h.sw,h.rw,h.ss,h.rs,h.sh,h.la,h.aw,h.n1,h.n2,h.pg,h.pn,Nat.le_trans hcnt h.cn,fun k hk=> ?_,by show((c.ks.map (gv above)).map (·.st.id)).Pairwise (· < ·);rw[hmap];exact h.asc,h.ou,fun e=>⟨(h.cl e).1,by have:=(h.cl e).2;show cP (c.ks.map (gv above))=0;omega⟩,?_⟩,fun k hk=> ?_⟩
 · obtain⟨k0,hk0,rfl⟩:=List.mem_map.1 hk
   exact(hp k0 hk0).1
 · show ba (c.ks.map (gv above))≤c.rw.held
   rw[htot c.ks (fun k hk=>(hp k hk).2.2.2.1)]
   exact h.tt
 · obtain⟨k0,hk0,rfl⟩:=List.mem_map.1 hk
   rcases(hp k0 hk0).2.2.2.2.2.2 with e|e
   · rw[e];exact h.nf k0 hk0
   · intro f r e';rw[e]at e';cases e'
theorem xi{c:NL}(h:VN c):∀k∈(iL c).ks,k.st.done=true:=fun k hk=>by
 obtain⟨k0,hk0,rfl⟩:=List.mem_map.1 hk
 have hp:=h.pk k0 hk0
 have:=hp.vs.id
 exact(yn (above:=0) hp).2.2.2.2.1 (by omega)
theorem Ci{l:List KR}(h:∀k∈l,k.st.done=true):cP l=0:=by
 unfold cP
 refine List.countP_eq_zero.2 fun k hk=> ?_
 rw[h k hk];decide
theorem VN.close{c:NL}(h:VN c):VN (iL c):=by
 have h1:VN {c with ou:=[]}:=h.flush
 have h2:=yo h1 0
 exact⟨⟨h2.sd,h2.sz,h2.sw,h2.rw,h2.ss,h2.rs,h2.sh,h2.la,h2.aw,h2.n1,h2.n2,h2.pg,h2.pn,h2.cn,h2.pk,h2.asc,(fun _ h=>by cases h),fun _=>⟨rfl,Ci (xi h)⟩,h2.tt⟩,h2.nf⟩
theorem VN.wait{c:NL}(h:VN c)(f:aS)(chk:Int)(hk:f.kind=2∨f.kind=3∨f.kind=4):VN (bS c f chk).1:=by
 unfold bS
 split
 · exact h
 · rename_i hw
   have hw:fj c f chk=0:=Decidable.not_not.1 hw
   unfold fj at hw
   cases hfi:bX f.strm c.ks 0 with
   |none=>rw[hfi]at hw;cases hw
   |some i=>
    obtain⟨k,hi,hid⟩:=dg hfi
    rw[hfi]at hw
    dsimp only at hw
    rw[cF hi]at hw
    have hp:=h.pk k (List.mem_of_getElem? hi)
    have e1:chk=0:=by
     refine Decidable.not_not.1 fun e=> ?_
     rw[if_pos e]at hw;exact e hw
    rw[if_neg (by simpa using e1),if_neg (by simpa using hp.ahd)]at hw
    have hah:=nu hp.ahd hw
    show VN (eW (fi c i _) i)
    rw[bC hi]
    have hb:VB {c with ks:=c.ks.set i {k with ob:=k.ob++[f]}}:=by
     refine h.toVB.upd (k':={k with ob:=k.ob++[f]}) (sw':=c.sw) (rw':=c.rw) (ou':=c.ou) hi ?_ rfl (fun e=>e) h.sw h.ss h.sh h.rw h.rs h.ou (fun e=>(h.cl e).1) ?_
     · refine⟨hp.vs,hp.sd,hp.z1,hp.z2,hp.h0,hp.he,hp.ib,hp.la,fun e=> ?_,hp.un,fun _=>hah,fun x hx=> ?_⟩
       · have hob:=hp.dn e
         rw[hob,cQ]at hw
         exact absurd hw (oB (s:=fA k.st) e)
       · rcases List.mem_append.1 hx with hx|hx
         · exact hp.kd x hx
         · obtain rfl:=List.mem_singleton.1 hx
           exact hk
     · rw[cZ hi]
       have:=h.tt
       show ba c.ks-aT k.ib+aT k.ib≤c.rw.held
       omega
    have hil:=(List.getElem?_eq_some_iff.1 hi).1
    refine VN.son hb (k:={k with ob:=k.ob++[f]}) (List.getElem?_set_self hil) (fun j k' hj hk'=> ?_)
    rw[List.getElem?_set_ne (fun e=>hj e.symm)]at hk'
    exact h.nf k' (List.mem_of_getElem? hk')
theorem VN.cancel{c:NL}(h:VN c)(id code:Int):VN (ga c id code).1:=by
 unfold ga
 split
 · exact h
 · rename_i hw
   have hw:lO c id code=0:=Decidable.not_not.1 hw
   unfold lO at hw
   cases hfi:bX id c.ks 0 with
   |none=>rw[hfi]at hw;cases hw
   |some i=>
    obtain⟨k,hi,hid⟩:=dg hfi
    rw[hfi]at hw
    dsimp only at hw
    rw[cF hi]at hw
    have hp:=h.pk k (List.mem_of_getElem? hi)
    have ho:=fT hw
    have hcl:c.cl=false:=eq_false_of_ne_true fun e=>by
     have:=yj h.toVB e k (List.mem_of_getElem? hi)
     rw[ho.d]at this;cases this
    show VN {fi c i _ with ou:=_}
    rw[bC hi]
    have hd:(aZ k.st ⟨5,id,code,emptyB⟩).st=dq k.st code ⟨#[]⟩:=by
     generalize (aZ k.st ⟨5,id,code,emptyB⟩).st=t at *
     cases ho.h with
     |data hk=>simp at hk
     |fin hk=>simp at hk
     |stat hk=>simp at hk
     |reset hk=>rfl
    have hs:dE {k with st:=(aZ k.st ⟨5,id,code,emptyB⟩).st}={k with st:=dq k.st code ⟨#[]⟩,ob:=[]}:=by
     rw[hd];unfold dE;exact if_pos rfl
    rw[hs]
    rw[hd]at ho
    refine h.upd (k':={k with st:=dq k.st code ⟨#[]⟩,ob:=[]}) (sw':=c.sw) (rw':=c.rw) hi ⟨iQ ho,hp.sd,hp.z1,hp.z2,hp.h0,hp.he,hp.ib,hp.la,fun _=>rfl,(fun e=>by cases e),(fun e=>by cases e),fun _ h=>by cases h⟩ rfl (fun _=>rfl) h.sw h.ss h.sh (Int.le_refl _) (fun f r e=>by cases e) h.rw h.rs (fun x hx=> ?_) (fun e=> ?_) ?_
    · rcases List.mem_append.1 hx with hx|hx
      · exact h.ou x hx
      · obtain rfl:=List.mem_singleton.1 hx
        exact ho.fe
    · rw[hcl]at e;cases e
    · rw[cZ hi]
      have:=h.tt
      show ba c.ks-aT k.ib+aT k.ib≤c.rw.held
      omega
theorem VN.read{c:NL}(h:VN c)(id:Int):VN (de c id).1:=by
 unfold de
 cases hfi:bX id c.ks 0 with
 |none=>exact h
 |some i=>
  obtain⟨k,hi,hid⟩:=dg hfi
  dsimp only
  rw[cF hi]
  cases hib:k.ib with
  |nil=>exact h
  |cons s r=>
   dsimp only
   have hp:=h.pk k (List.mem_of_getElem? hi)
   have hu:=dX r
   have hs:=dH s
   have hup:VN {c with ks:=c.ks.set i {k with ib:=r}}:=by
    refine h.upd (k':={k with ib:=r}) (sw':=c.sw) (rw':=c.rw) (ou':=c.ou) hi (hp.rcv (w:=k.st.rcv) (ib:=r) hp.vs.rv rfl (fun m hm=>hp.ib m (by rw[hib];exact List.mem_cons_of_mem _ hm)) (fun hd=> ?_)) rfl (fun e=>e) h.sw h.ss h.sh (Int.le_refl _) (h.nf k (List.mem_of_getElem? hi)) h.rw h.rs h.ou (fun e=>(h.cl e).1) ?_
    · have:=hp.un hd
      rw[hib,aT]at this
      omega
    · rw[cZ hi,hib,aT]
      have:=h.tt
      show ba c.ks - (aG s+aT r)+aT r≤c.rw.held
      omega
   rw[bC hi]
   refine VN.gbC ?_
   split
   · exact hup
   · rename_i hd
     have hil:=(List.getElem?_eq_some_iff.1 hi).1
     rw[←hid]
     exact(hup.gbK (i:=i) (k:={k with ib:=r}) (List.getElem?_set_self hil) (eq_false_of_ne_true hd)).1
theorem VN.drop{c:NL}(h:VN c)(id:Int):VN (fH c id):=by
 unfold fH
 cases hfi:bX id c.ks 0 with
 |none=>exact h
 |some i=>
  obtain⟨k,hi,hid⟩:=dg hfi
  dsimp only
  split
  · exact h
  · refine VN.gbC ?_
    have hsub:(c.ks.eraseIdx i).Sublist c.ks:=List.eraseIdx_sublist ..
    refine⟨⟨h.sd,h.sz,h.sw,h.rw,h.ss,h.rs,h.sh,h.la,h.aw,h.n1,h.n2,h.pg,h.pn,Nat.le_trans (hsub.countP_le) h.cn,fun k hk=>h.pk k (hsub.subset hk),h.asc.sublist (hsub.map _),h.ou,fun e=>⟨(h.cl e).1,?_⟩,?_⟩,fun k hk=>h.nf k (hsub.subset hk)⟩
    · have:=(h.cl e).2
      have h2:cP (c.ks.eraseIdx i)≤cP c.ks:=hsub.countP_le
      show cP (c.ks.eraseIdx i)=0
      omega
    · show ba (c.ks.eraseIdx i)≤c.rw.held
      rw[ku hi]
      have:=h.tt
      have:=dX k.ib
      omega
theorem Cj{id sd sh n:Int}(h:(cU id sd sh n).err=0):(cU id sd sh n).st=⟨id,sd,sh,0,0,false,false,false,0,⟨#[]⟩,⟨n,n,0⟩,⟨n,n,0⟩⟩∧VS (cU id sd sh n).st∧1≤id∧id≤2147483647:=by
 unfold cU at h ⊢
 split at h
 · cases h
 · rename_i g
   rw[if_neg g]
   have g1:¬id<1:=fun e=>g (.inl e)
   have g2:¬2147483647<id:=fun e=>g (.inr (.inl e))
   have g3:sd=1∨sd=2:=by have:=fun e=>g (.inr (.inr (.inl e)));omega
   have g4:pr sh=true:=by simpa using fun e=>g (.inr (.inr (.inr (.inl e))))
   have g5:(gT n).err=0:=Decidable.not_not.1 fun e=>g (.inr (.inr (.inr (.inr e))))
   have g6:1≤n∧n≤1048576∧gT n=⟨⟨n,n,0⟩,0⟩:=by
    unfold gT at g5 ⊢
    split at g5
    · cases g5
    · rename_i g'
      rw[if_neg g']
      exact⟨by omega,by omega,rfl⟩
   obtain⟨z1,z2,z3⟩:=g6
   rw[z3]
   have hw:bi ⟨n,n,0⟩=true:=aW.2 ⟨z1,z2,by dsimp only;omega,Int.le_refl _,z2,by dsimp only;omega⟩
   have ht:∀m:Int,m= -1∨0≤m→0≤kG m:=fun m hm=>by unfold kG;split<;>omega
   have hc2:0≤kG (c2 sh):=ht _ (by unfold c2;rw[if_pos g4];split<;>simp)
   have hc4:0≤kG (c4 sh):=ht _ (by unfold c4;rw[if_pos g4];split<;>simp)
   refine⟨rfl,⟨⟨by dsimp only;omega,by dsimp only;omega⟩,g3,g4,hw,hw,?_,?_,(fun e=>by cases e),fun _=>⟨?_,fun e=> ?_,rfl,rfl⟩⟩,by omega,by omega⟩
   · unfold gU;split<;>exact⟨Int.le_refl _,hc2⟩
   · unfold kl;split<;>exact⟨Int.le_refl _,hc4⟩
   · unfold rB;split<;>rfl
   · unfold lI at e;split at e<;>cases e
theorem VN.more{c:NL}(h:VN c){id sh nx' la':Int}(ho:(cU id c.sd sh c.sz).err=0)(hi:c.la<id)(hla:la'=id)(hn1:c.sd=1→nx'=la'+1)(hn2:c.sd=2→nx'=1)(hc:cP c.ks<64)(hcl:c.cl=false){hd:io}(he:bG hd=0){ou':List aS}(hou:∀f∈ou',aA f=0):
 VN {c with nx:=nx',la:=la',ks:=c.ks++[⟨(cU id c.sd sh c.sz).st,hd.svc,hd.mth,hd.late,hd.metas,[],[]⟩],ou:=ou'}:=by
 obtain⟨e,v,i1,i2⟩:=Cj ho
 subst hla
 have hla:=h.la
 refine⟨⟨h.sd,h.sz,h.sw,h.rw,h.ss,h.rs,h.sh,⟨by show 0≤la';omega,i2⟩,h.aw,hn1,fun e=>⟨hn2 e,by have:=(h.n2 e).2;show c.aw≤la'+1;omega⟩,h.pg,h.pn,?_,fun k hk=> ?_,?_,hou,(fun e=>by dsimp only at e;rw[hcl]at e;cases e),?_⟩,fun k hk=> ?_⟩
 · show cP (c.ks++_)≤64
   unfold cP at hc ⊢
   rw[List.countP_append,List.countP_singleton]
   split<;>omega
 · rcases List.mem_append.1 hk with hk|hk
   · exact(h.pk k hk).la' (by show c.la≤la';omega)
   · obtain rfl:=List.mem_singleton.1 hk
     exact⟨v,by rw[e],by rw[e],by rw[e],by rw[e],he,(fun _ h=>by cases h),by rw[e];exact Int.le_refl _,fun _=>rfl,fun _=>by rw[e];exact Int.le_refl _,fun _=>rfl,fun _ h=>by cases h⟩
 · show((c.ks++_).map (·.st.id)).Pairwise (· < ·)
   rw[List.map_append]
   refine List.pairwise_append.2 ⟨h.asc,List.pairwise_singleton _ _,fun a ha b hb=> ?_⟩
   obtain⟨k,hk,rfl⟩:=List.mem_map.1 ha
   obtain rfl:=List.mem_singleton.1 hb
   have:=(h.pk k hk).la
   show k.st.id<(cU la' c.sd sh c.sz).st.id
   rw[e]
   show k.st.id<la'
   omega
 · show ba (c.ks++_)≤c.rw.held
   rw[vI]
   have:=h.tt
   simp only[ba,aT]
   omega
 · rcases List.mem_append.1 hk with hk|hk
   · exact h.nf k hk
   · obtain rfl:=List.mem_singleton.1 hk
     intro f r e';cases e'
theorem VN.open{c:NL}(h:VN c)(hd:io)(sh:Int):VN (bN c hd sh).1:=by
 unfold bN
 split
 · exact h
 · rename_i hw
   have hw:gV c hd sh=0:=Decidable.not_not.1 hw
   unfold gV at hw
   split at hw
   · cases hw
   rename_i g1
   split at hw
   · cases hw
   rename_i g2
   split at hw
   · rename_i g;exact absurd hw g
   rename_i g3
   split at hw
   · rename_i g;exact absurd hw g
   rename_i g4
   have h1:c.sd=1:=Decidable.not_not.1 fun e=>g1 (.inl e)
   have h2:c.cl=false:=eq_false_of_ne_true fun e=>g1 (.inr (.inl e))
   have hnx:=h.n1 h1
   have e1:cU c.nx 1 sh c.sz=cU c.nx c.sd sh c.sz:=by rw[h1]
   dsimp only
   rw[e1]at hw ⊢
   refine h.more (id:=c.nx) hw (by omega) rfl (fun _=>rfl) (fun e=>by omega) (by omega) h2 (Decidable.not_not.1 g3) (fun f hf=> ?_)
   rcases List.mem_append.1 hf with hf|hf
   · exact h.ou f hf
   · obtain rfl:=List.mem_singleton.1 hf
     exact Decidable.not_not.1 g4
end
end Go.Proofs.YthiocbcokfondaaGreatDoor.Y
