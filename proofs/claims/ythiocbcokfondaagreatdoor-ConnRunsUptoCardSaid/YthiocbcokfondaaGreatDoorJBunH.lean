import Derived.Test.YthiocbcokfondaaGreatDoorJBunT
import Derived.Test.YthiocbcokfondaaGreatDoorJBunR
import Derived.Test.YthiocbcokfondaaGreatDoorJBunE
import Derived.Test.YthiocbcokfondaaGreatDoorJYv
import Derived.Test.YthiocbcokfondaaGreatDoorJBunD
set_option maxRecDepth 100000
set_option maxHeartbeats 32000000
namespace Go.Proofs.YthiocbcokfondaaGreatDoor
open Go.RowKit
theorem iw(s:ByteArray){e:Int}(he:e≠0):cb s e=⟨0,s,e⟩:=by unfold cb;rw[if_neg he]
theorem sr(s:ByteArray){e:Int}(he:e≠0):be s e=⟨⟨#[]⟩,s,e⟩:=by unfold be;rw[iw s he];unfold iF;rw[if_neg he]
theorem jL(s0:ByteArray)(h:io)(l:Nat)(ms:List (ByteArray×ByteArray))(r:ByteArray){e:Int}(he:e≠0):jc s0 h l ⟨ms,r,e⟩=⟨gP,e⟩:=by unfold jc;rw[if_pos he]
theorem DC(s:ByteArray){n k:Nat}(hn:n≤s.size)(_:k≤(s.extract n s.size).size):(s.extract n s.size).extract k (s.extract n s.size).size=s.extract (n+k) s.size:=by
 have h1:(s.extract n s.size).size=s.size-n:=by rw[ByteArray.size_extract];omega
 refine ByteArray.ext (Array.ext' ?_)
 rw[h1]at *
 simp only[ByteArray.data_extract,Array.toList_extract,List.extract_eq_take_drop]
 have hl:s.data.toList.length=s.size:=by rw[Array.length_toList];rfl
 rw[List.take_of_length_le (l:=s.data.toList.drop n) (by rw[List.length_drop];omega),List.drop_drop,List.take_of_length_le (by rw[List.length_drop];omega),List.take_of_length_le (by rw[List.length_drop];omega)]
theorem En{s0:ByteArray}{a:tn}(ha:be s0 0=a):bK s0=jc s0 ⟨a.text,(be a.rest a.err).text,0,[]⟩ (cb (be a.rest a.err).rest (be a.rest a.err).err).num (fM (cb (cb (be a.rest a.err).rest (be a.rest a.err).err).rest (cb (be a.rest a.err).rest (be a.rest a.err).err).err).num (cb (cb (be a.rest a.err).rest (be a.rest a.err).err).rest (cb (be a.rest a.err).rest (be a.rest a.err).err).err).rest (cb (cb (be a.rest a.err).rest (be a.rest a.err).err).rest (cb (be a.rest a.err).rest (be a.rest a.err).err).err).err):=by subst ha;rfl
theorem pt(n:Nat)(s:ByteArray){e:Int}(he:e≠0):fM n s e=⟨[],s,e⟩:=by unfold fM;rw[if_neg he]
theorem F5{s0:ByteArray}{a:tn}(ha:be s0 0=a)(h:a.err≠0):bK s0=⟨gP,a.err⟩:=by
 rw[En ha,sr _ h]
 dsimp only
 rw[iw _ h]
 dsimp only
 rw[iw _ h,pt _ _ h,jL _ _ _ _ _ h]
theorem Eo{s0:ByteArray}{a b:tn}(ha:be s0 0=a)(h:a.err=0)(hb:be a.rest 0=b):bK s0=jc s0 ⟨a.text,b.text,0,[]⟩ (cb b.rest b.err).num (fM (cb (cb b.rest b.err).rest (cb b.rest b.err).err).num (cb (cb b.rest b.err).rest (cb b.rest b.err).err).rest (cb (cb b.rest b.err).rest (cb b.rest b.err).err).err):=by rw[En ha,h,hb]
theorem F6{s0:ByteArray}{a b:tn}(ha:be s0 0=a)(h:a.err=0)(hb:be a.rest 0=b)(h2:b.err≠0):bK s0=⟨gP,b.err⟩:=by
 rw[Eo ha h hb,iw _ h2]
 dsimp only
 rw[iw _ h2,pt _ _ h2,jL _ _ _ _ _ h2]
theorem uX{s:ByteArray}{u n:Nat}{c:Int}(h:bR s=(u,n,c)):cb s 0=⟨u,s.extract n s.size,c⟩:=by unfold cb;rw[if_pos rfl,h]
theorem Ep{s0:ByteArray}{a b:tn}{u n:Nat}{c:Int}(ha:be s0 0=a)(h:a.err=0)(hb:be a.rest 0=b)(h2:b.err=0)(hc:bR b.rest=(u,n,c)):bK s0=jc s0 ⟨a.text,b.text,0,[]⟩ u (fM (cb (b.rest.extract n b.rest.size) c).num (cb (b.rest.extract n b.rest.size) c).rest (cb (b.rest.extract n b.rest.size) c).err):=by rw[Eo ha h hb,h2,uX hc]
theorem F7{s0:ByteArray}{a b:tn}{u n:Nat}{c:Int}(ha:be s0 0=a)(h:a.err=0)(hb:be a.rest 0=b)(h2:b.err=0)(hc:bR b.rest=(u,n,c))(h3:c≠0):bK s0=⟨gP,c⟩:=by
 rw[Ep ha h hb h2 hc,iw _ h3,pt _ _ h3,jL _ _ _ _ _ h3]
theorem BC{s0:ByteArray}{a b:tn}{u n u4 n4:Nat}{c4:Int}(ha:be s0 0=a)(h:a.err=0)(hb:be a.rest 0=b)(h2:b.err=0)(hc:bR b.rest=(u,n,0))(hd:bR (b.rest.extract n b.rest.size)=(u4,n4,c4)):bK s0=jc s0 ⟨a.text,b.text,0,[]⟩ u (fM u4 (b.rest.extract (n+n4) b.rest.size) c4):=by
 rw[Ep ha h hb h2 hc,uX hd]
 dsimp only
 rw[DC _ (jK hc) (jK hd)]
theorem F8{s0:ByteArray}{a b:tn}{u n u4 n4:Nat}{c4:Int}(ha:be s0 0=a)(h:a.err=0)(hb:be a.rest 0=b)(h2:b.err=0)(hc:bR b.rest=(u,n,0))(hd:bR (b.rest.extract n b.rest.size)=(u4,n4,c4))(h4:c4≠0):bK s0=⟨gP,c4⟩:=by
 rw[BC ha h hb h2 hc hd,pt _ _ h4,jL _ _ _ _ _ h4]
theorem F9{s0:ByteArray}{a b:tn}{u n u4 n4:Nat}(ha:be s0 0=a)(h:a.err=0)(hb:be a.rest 0=b)(h2:b.err=0)(hc:bR b.rest=(u,n,0))(hd:bR (b.rest.extract n b.rest.size)=(u4,n4,0))(h5:16<u4):bK s0=⟨gP,3⟩:=by
 rw[BC ha h hb h2 hc hd]
 unfold fM
 rw[if_pos rfl,if_pos h5,jL _ _ _ _ _ (by decide)]
theorem Ga{s0:ByteArray}{a b:tn}{u n u4 n4:Nat}(ha:be s0 0=a)(h:a.err=0)(hb:be a.rest 0=b)(h2:b.err=0)(hc:bR b.rest=(u,n,0))(hd:bR (b.rest.extract n b.rest.size)=(u4,n4,0))(h5:¬16<u4):bK s0=jc s0 ⟨a.text,b.text,0,[]⟩ u (dI u4 (b.rest.extract (n+n4) b.rest.size) 0 []):=by
 rw[BC ha h hb h2 hc hd]
 unfold fM
 rw[if_pos rfl,if_neg h5]
theorem Gb(n:Nat){s:ByteArray}{a:tn}(acc:List (ByteArray×ByteArray))(ha:be s 0=a)(h:a.err≠0):(dI (n+1) s 0 acc).err=a.err:=by
 rw[dI,if_pos rfl,ha,sr _ h]
 dsimp only
 rw[iM _ _ h]
theorem Gc(n:Nat){s:ByteArray}{a b:tn}(acc:List (ByteArray×ByteArray))(ha:be s 0=a)(h:a.err=0)(hb:be a.rest 0=b)(h2:b.err≠0):(dI (n+1) s 0 acc).err=b.err:=by
 rw[dI,if_pos rfl,ha,h,hb,iM _ _ h2]
theorem Gd(n:Nat){s:ByteArray}{a b:tn}(acc:List (ByteArray×ByteArray))(ha:be s 0=a)(h:a.err=0)(hb:be a.rest 0=b)(h2:b.err=0):dI (n+1) s 0 acc=dI n b.rest 0 (acc++[(a.text,b.text)]):=by
 rw[dI,if_pos rfl,ha,h,hb,h2]
theorem tF{s0:ByteArray}{h:io}{l:Nat}{m:FQ}{e:Int}(he:m.err=e)(h0:e≠0):jc s0 h l m=⟨gP,e⟩:=by unfold jc;rw[he,if_pos h0]
end Go.Proofs.YthiocbcokfondaaGreatDoor
namespace Go.Proofs.YthiocbcokfondaaGreatDoor.Y
open Go.RowKit
theorem xV(s:ByteArray)(X:tn)(h:be s 0=X)(w:World)(hs:s.size≤4611686018427387900):Calls Tryz.prog 154 #[.string s] w fun e w'=>e= .returned (.tuple #[.string X.text,.string (km X),.int .i64 X.err])∧Below w.heap.size w w':=by
 subst h
 exact yZ s w hs
theorem Ge(s:ByteArray)(u n:Nat)(c:Int)(h:bR s=(u,n,c))(w:World)(hs:s.size≤4611686018427387900):Calls Tryz.prog 155 #[.string s] w fun e w'=>e= .returned (.tuple #[.int .u64 ((u:Nat):Int),.int .i64 ((n:Nat):Int),.int .i64 c])∧Below w.heap.size w w':=by
 have h1:=ki (iY s w (by omega))
 rw[h]at h1
 exact h1
theorem Hj(h:io)(a:Option Addr)(cap:Nat)(e:Int)(he:bG h=e)(w:World)(hm:MsIn w (.slice a h.metas.length cap) h.metas)(hz:fK h):Calls Tryz.prog 79 #[.agg #[.string h.svc,.string h.mth,.int .i64 h.late,.slice a h.metas.length cap]] w fun r w'=>r= .returned (.tuple #[.string ⟨(fY h).bytes.toArray⟩,.int .i64 e])∧Below w.heap.size w w':=by
 have h1:=rU h (.slice a h.metas.length cap) w hm hz
 have h2:(fY h).err=e:=by
  rw[←he]
  unfold fY
  split
  · rename_i h0;exact h0.symm
  · rfl
 rw[h2]at h1
 exact h1
structure Ib where
 j:Nat
 s:ByteArray
 acc:List (ByteArray×ByteArray)
 a:Option Addr
 cap:Nat
attribute [local irreducible] Calls
theorem G3(s0:ByteArray)(R:Dc)(hR:bK s0=R)(w:World)(hs:s0.size<4294967281):Calls Tryz.prog 86 #[.string s0] w fun e w'=> ∃v,e= .returned (.tuple #[.agg (cX R.head v),.int .i64 R.err])∧w'.ownsRow w.heap.size MT 2 v R.head.metas.length (eC R.head.metas)∧Below w.heap.size w w':=by
 refine ai Tryz.func86 rfl Tryz.ntmps86 J J ?_
 obtain⟨X1,hX1⟩:∃x,be s0 0=x:=⟨_,rfl⟩
 have hb1:=gL s0 0
 rw[hX1]at hb1
 repeat' (first|(refine al ?_;intro g4)|refine cl (fun w hm=>xV s0 X1 hX1 w (by omega)) ?_|refine nx ?_)
 rename_i g2
 by_cases h1:X1.err=0
 rotate_left
 · refine af rfl (by simpa using h1) ?_
   obtain rfl:=hR.symm.trans (F5 hX1 h1)
   repeat' refine nx ?_
   refine rt ?_
   exact fun w1 hm=>⟨.slice none 0 0,rfl,World.ownsRow_nil _ _ _ _,hm.below⟩
 refine aa rfl (by simpa using h1) ?_
 obtain⟨X2,hX2⟩:∃x,be X1.rest 0=x:=⟨_,rfl⟩
 have hb2:=gL X1.rest 0
 rw[hX2]at hb2
 rw[show km X1=X1.rest from if_pos h1]
 repeat' (first|refine cl (fun w hm=>xV X1.rest X2 hX2 w (by omega)) ?_|refine nx ?_)
 by_cases h2:X2.err=0
 rotate_left
 · refine af rfl (by simpa using h2) ?_
   obtain rfl:=hR.symm.trans (F6 hX1 h1 hX2 h2)
   repeat' refine nx ?_
   refine rt ?_
   exact fun w1 hm=>⟨.slice none 0 0,rfl,World.ownsRow_nil _ _ _ _,hm.below⟩
 refine aa rfl (by simpa using h2) ?_
 rw[show km X2=X2.rest from if_pos h2]
 obtain⟨⟨u,n,c⟩,hT3⟩:∃t,bR X2.rest=t:=⟨_,rfl⟩
 repeat' (first|refine cl (fun w hm=>Ge X2.rest u n c hT3 w (by omega)) ?_|refine nx ?_)
 by_cases h3:c=0
 rotate_left
 · refine af rfl (by simpa using h3) ?_
   obtain rfl:=hR.symm.trans (F7 hX1 h1 hX2 h2 hT3 h3)
   repeat' refine nx ?_
   refine rt ?_
   exact fun w1 hm=>⟨.slice none 0 0,rfl,World.ownsRow_nil _ _ _ _,hm.below⟩
 refine aa rfl (by simpa using h3) ?_
 subst h3
 obtain⟨⟨u4,n4,c4⟩,hT4⟩:∃t,bR (X2.rest.extract n X2.rest.size)=t:=⟨_,rfl⟩
 have hn:=jK hT3
 have hn4:=jK hT4
 rw[ByteArray.size_extract]at hn4
 have hnn:n+n4≤X2.rest.size:=by omega
 repeat' (first|refine vx rfl (xJ ae n X2.rest.size J J J J J J J J (fun _=>⟨rfl,rfl,jK hT3,Nat.le_refl _⟩)) ?_|refine cl (fun w hm=>Ge (X2.rest.extract n X2.rest.size) u4 n4 c4 hT4 w (by rw[ByteArray.size_extract];omega)) ?_|refine nx ?_)
 by_cases h4:c4=0
 rotate_left
 · refine af rfl (by simpa using h4) ?_
   obtain rfl:=hR.symm.trans (F8 hX1 h1 hX2 h2 hT3 hT4 h4)
   repeat' refine nx ?_
   refine rt ?_
   exact fun w1 hm=>⟨.slice none 0 0,rfl,World.ownsRow_nil _ _ _ _,hm.below⟩
 refine aa rfl (by simpa using h4) ?_
 subst h4
 repeat' refine nx ?_
 by_cases h5:16<u4
 · refine af rfl (decide_eq_true (by omega)) ?_
   obtain rfl:=hR.symm.trans (F9 hX1 h1 hX2 h2 hT3 hT4 h5)
   repeat' refine nx ?_
   refine rt ?_
   exact fun w1 hm=>⟨.slice none 0 0,rfl,World.ownsRow_nil _ _ _ _,hm.below⟩
 refine aa rfl (decide_eq_false (by omega)) ?_
 have h6:=Ga hX1 h1 hX2 h2 hT3 hT4 h5
 rw[hR]at h6
 obtain⟨MM,hMM⟩:∃m,dI u4 (X2.rest.extract (n+n4) X2.rest.size) 0 []=m:=⟨_,rfl⟩
 rw[hMM]at h6
 have hwr:IntKind.i64.wrap ((u4:Nat):Int)=(u4:Int):=IntWalk.i64_in _ (by omega)
 repeat' (first|refine vx rfl (xJ ae (n+n4) X2.rest.size J J J J J J J J (fun _=>⟨rfl,rfl,hnn,Nat.le_refl _⟩)) ?_|refine vx rfl (bm J J J J J (by omega)) ?_|refine nx ?_)
 refine Bf MT 2 ?_
 refine bT (σ:=Ib) (fun q=>q.j≤u4∧q.acc.length=q.j∧q.s.size≤s0.size∧dI (u4-q.j) q.s 0 q.acc=MM∧ ∀m∈q.acc,m.1.size≤s0.size∧m.2.size≤s0.size) (fun q=>[(13,[],.int .i64 ((q.j:Nat):Int)),(6,[],.string q.s),(11,[],.int .u64 ((u4:Nat):Int)),(9,[],.int .u64 ((u:Nat):Int)),(4,[],.pointer (some ⟨g4,0,none⟩)),(2,[],.pointer (some ⟨g2,0,none⟩)),(0,[],.string s0)]) (fun q=>[.own q.a q.cap 93 2 q.acc.length (eC q.acc),.cl g4 36 [.string X1.text,.string X2.text,.int .i64 0,.slice q.a q.acc.length q.cap],.cl g2 36 [.string ⟨#[]⟩,.string ⟨#[]⟩,.int .i64 0,.slice none 0 0]]) (fun q=>u4-q.j) ⟨0,(X2.rest.extract (n+n4) X2.rest.size),[],none,0⟩ [] ⟨Nat.zero_le _,rfl,(by show(X2.rest.extract _ _).size≤_;rw[ByteArray.size_extract];omega),hMM,fun m hm=>by cases hm⟩ ⟨J,J,J,J,J,J,J,trivial⟩ rfl ?_
 rintro⟨j,s,acc,a,cap⟩ ⟨hj0,hal,hsz,hmf,hac⟩
 dsimp only at hj0 hal hsz hmf hac ⊢
 repeat' refine nx ?_
 rw[hwr]
 by_cases hj:j<u4
 · refine af rfl (decide_eq_true (by omega)) ?_
   obtain⟨XA,hXA⟩:∃x,be s 0=x:=⟨_,rfl⟩
   obtain⟨XB,hXB⟩:∃x,be XA.rest 0=x:=⟨_,rfl⟩
   have hba:=gL s 0
   rw[hXA]at hba
   have hbb:=gL XA.rest 0
   rw[hXB]at hbb
   rw[show u4-j=(u4 - (j+1))+1 by omega]at hmf
   repeat' (first|refine cl (fun w hm=>xV s XA hXA w (by omega)) ?_|refine nx ?_)
   by_cases ha:XA.err=0
   rotate_left
   · have he:=(Gb (u4 - (j+1)) acc hXA ha)
     rw[hmf]at he
     refine af rfl (by simpa using ha) ?_
     obtain rfl:=h6.trans (tF he ha)
     repeat' refine nx ?_
     refine rt ?_
     exact fun w1 hm=>⟨.slice none 0 0,rfl,World.ownsRow_nil _ _ _ _,hm.below⟩
   refine aa rfl (by simpa using ha) ?_
   rw[show km XA=XA.rest from if_pos ha]
   repeat' (first|refine cl (fun w hm=>xV XA.rest XB hXB w (by omega)) ?_|refine nx ?_)
   by_cases hb:XB.err=0
   rotate_left
   · have he:=(Gc (u4 - (j+1)) acc hXA ha hXB hb)
     rw[hmf]at he
     refine af rfl (by simpa using hb) ?_
     obtain rfl:=h6.trans (tF he hb)
     repeat' refine nx ?_
     refine rt ?_
     exact fun w1 hm=>⟨.slice none 0 0,rfl,World.ownsRow_nil _ _ _ _,hm.below⟩
   refine aa rfl (by simpa using hb) ?_
   rw[show km XB=XB.rest from if_pos hb]
   repeat' (first|refine vx rfl (bm J J J J J (by omega)) ?_|(refine cc ae J J J ⟨J,trivial⟩ J J J J J J J J ?_;intro g)|(refine bB ae 1 0 J J J J J J J J J (fun _ _=>rfl) wL J J (by unfold maxLen;omega) (by omega) J J ?_;intro sa sc)|refine nx ?_)
   have hcl:eC acc++[.string XA.text,.string XB.text]=eC (acc++[(XA.text,XB.text)]):=(oS acc _ _).symm
   have hll:acc.length+1=(acc++[(XA.text,XB.text)]).length:=by simp
   refine aY (⟨j+1,XB.rest,acc++[(XA.text,XB.text)],sa,sc⟩:Ib) [false,true,true,true] ⟨hj,(by dsimp only;rw[←hll,hal]),(by dsimp only;omega),(by dsimp only;rw[←hmf,Gd _ _ hXA ha hXB hb]),fun m hm=> ?_⟩ (show u4 - (j+1)<u4-j by omega) ⟨J,J,J,J,J,J,J,trivial⟩ (by rw[←hcl,←hll];rfl)
   rcases List.mem_append.1 hm with h|h
   · exact hac m h
   · rw[List.mem_singleton.1 h]
     exact⟨by dsimp only;omega,by dsimp only;omega⟩
 · refine aa rfl (decide_eq_false (by omega)) ?_
   rw[show u4-j=0 by omega,dI]at hmf
   subst hmf
   unfold jc at h6
   dsimp only at h6
   rw[if_neg (by simp)]at h6
   repeat' refine nx ?_
   by_cases hs0:s.size=0
   rotate_left
   · rw[if_pos hs0]at h6
     subst h6
     refine af rfl (by rw[tz,decide_eq_false hs0];rfl) ?_
     repeat' refine nx ?_
     refine rt ?_
     exact fun w1 hm=>⟨.slice none 0 0,rfl,World.ownsRow_nil _ _ _ _,hm.below⟩
   rw[if_neg (by simpa using hs0)]at h6
   refine aa rfl (by rw[tz,decide_eq_true hs0];rfl) ?_
   repeat' refine nx ?_
   by_cases hu:1099511627776<u
   · rw[if_pos hu]at h6
     subst h6
     refine af rfl (decide_eq_true (by omega)) ?_
     repeat' refine nx ?_
     refine rt ?_
     exact fun w1 hm=>⟨.slice none 0 0,rfl,World.ownsRow_nil _ _ _ _,hm.below⟩
   rw[if_neg hu]at h6
   refine aa rfl (decide_eq_false (by omega)) ?_
   have hwu:IntKind.i64.wrap ((u:Nat):Int)=(u:Int):=IntWalk.i64_in _ (by omega)
   obtain⟨H,hH⟩:∃h,(⟨X1.text,X2.text,((u:Nat):Int),acc⟩:io)=h:=⟨_,rfl⟩
   obtain⟨e,he⟩:∃e,bG H=e:=⟨_,rfl⟩
   rw[hH,he]at h6
   have hz:fK H:=by
    rw[←hH]
    exact⟨by dsimp only;omega,by dsimp only;omega,fun m hm=>by have:=hac m hm;exact⟨by omega,by omega⟩⟩
   repeat' refine nx ?_
   rw[hwu]
   subst hH
   repeat' (first|refine cl (fun w hm=>Hj ⟨X1.text,X2.text,((u:Nat):Int),acc⟩ a cap e he w (MsIn.own (hm.2.get (i:=0) rfl)) hz) ?_|refine nx ?_)
   by_cases h7:e=0
   rotate_left
   · rw[if_pos h7]at h6
     subst h6
     refine af rfl (by simpa using h7) ?_
     repeat' refine nx ?_
     refine rt ?_
     exact fun w1 hm=>⟨.slice none 0 0,rfl,World.ownsRow_nil _ _ _ _,hm.below⟩
   rw[if_neg (by simpa using h7)]at h6
   subst h7
   refine aa J J ?_
   rw[ke he]
   repeat' refine nx ?_
   by_cases h8:fX ⟨X1.text,X2.text,((u:Nat):Int),acc⟩=s0.data.toList
   rotate_left
   · rw[if_pos h8]at h6
     subst h6
     refine af rfl (by rw[ByteArray.toList_eq,ByteArray.toList_eq];simpa using h8) ?_
     repeat' refine nx ?_
     refine rt ?_
     exact fun w1 hm=>⟨.slice none 0 0,rfl,World.ownsRow_nil _ _ _ _,hm.below⟩
   rw[if_neg (by simpa using h8)]at h6
   subst h6
   refine aa rfl (by rw[ByteArray.toList_eq,ByteArray.toList_eq];simpa using h8) ?_
   repeat' refine nx ?_
   refine rt ?_
   exact fun w1 hm=>⟨.slice a acc.length cap,rfl,hm.2.get (i:=0) rfl,hm.below⟩
end Go.Proofs.YthiocbcokfondaaGreatDoor.Y
namespace Go.Proofs.YthiocbcokfondaaGreatDoor
theorem kV(s0:ByteArray)(w:World)(hs:s0.size<4294967281):Calls Tryz.prog 86 #[.string s0] w (xT (bK s0) w):=Y.G3 s0 _ rfl w hs
theorem lQ(s0:ByteArray)(w:World)(hs:s0.size<4294967281):Calls Tryz.prog 86 #[.string s0] w (Bu (bK s0) w):=
 (kV s0 w hs).mono fun _ _ ⟨v,h1,h2,h3⟩=>⟨v,h1,MsIn.own h2,h3⟩
end Go.Proofs.YthiocbcokfondaaGreatDoor
namespace Go.Proofs.YthiocbcokfondaaGreatDoor.Y
open Go.RowKit
section
variable {P:Program}{l0 rest:List Oper}{Z:Act→World→Prop}{Q:Exit→Act→World→Prop}{n d:Nat}{w0:World}{S:co}{M M' M2:List Ent}{p:World→Prop}{o:Oper}
theorem jM{b:Nat}{T:TypeId}{cs cs':List Value}{f:FuncId}{args:List Value}{v:Value}(i:Nat)(hc:∀w,w0.heap.size≤b→Mem w0 w M→Bk w b T ⟨cs⟩→Calls P f ⟨args⟩ w fun e w'=>e= .returned v∧Bk w' b T ⟨cs'⟩∧w.grownBy w' (some b))(hi:ez M i=some (.cl b T cs))(h9:eP M i (.cl b T cs')=some M')(hg:o.guard=none)(ho:dS P S [] o f args)(hd:o.dst=some d)(hn:Nat.blt d n=true)(h:SL P l0 Q rest n w0 ((d,[],v)::S) M'):SL P l0 Q (o::rest) n w0 S M:=
 bL (σ:=Unit) (fun _=>True) (fun _=>v) (fun _=>M') hg ho (fun w hm=>(hc w (hm.2.get hi).1 hm (hm.2.get hi).2).mono fun _ _ ⟨h1,h2,h3⟩=>⟨(),trivial,h1,hm.set hi h9 h3.os h3.tape h3.output h3.size (fun k hk hne=>h3.block k hk (fun e=>hne (Option.some.inj e))) ⟨(hm.2.get hi).1,h2⟩ (fun _ hk=> .inl hk) (fun _ hk=> .inl hk)⟩) hd hn (fun _ _=>h)
theorem tG{σ:Type}{N:σ→List Ent}{S':σ→co}(hs:∀Q:Exit→Act→World→Prop,(∀g,SL P l0 Q [] n w0 (S' g) (N g))→SL P l0 Q [o] n w0 S M)(hM':∀g w,Mem w0 w (N g)→Mem w0 w M'∧p w)(hg:o.guard=none)(hk:(qp o.op).pure=false)(hk2:(qp o.op).read=false)(h:∀g,SY P l0 Z rest n w0 M' p (S' g) (N g)):SY P l0 Z (o::rest) n w0 M' p S M:=by
 have hw:∀a:Act,Region.wanted o (yielded l0.toArray a.tmps)=true:=fun a=>by unfold Region.wanted;rw[hg]
 refine⟨fun a w hS hM=>bH (hw a) hk hk2 fun K hK=> ?_⟩
 have h1:=(hs (fun _ a' w'=> ∃g,Sl n a' (S' g)∧Mem w0 w' (N g)) (fun g=>⟨fun a w hS hM=>⟨g,hS,hM⟩⟩)).run a w hS hM
 unfold tm at h1
 rw[hw a]at h1
 exact Vals.wp rfl h1 (fun v w' ⟨g,hS',hN⟩=>hK _ _ ⟨hM' g _ hN,(h g).run _ _ hS' hN⟩)
theorem uY{N:List Ent}{S':co}(hs:∀Q:Exit→Act→World→Prop,SL P l0 Q [] n w0 S' N→SL P l0 Q [o] n w0 S M)(hM':∀w,Mem w0 w N→Mem w0 w M'∧p w)(hg:o.guard=none)(hk:(qp o.op).pure=false)(hk2:(qp o.op).read=false)(h:SY P l0 Z rest n w0 M' p S' N):SY P l0 Z (o::rest) n w0 M' p S M:=tG (σ:=Unit) (fun Q h=>hs Q (h ())) (fun _=>hM') hg hk hk2 fun _=>h
theorem zb{T:eV}(hT:TOK P T){t e:TypeId}{len:Nat}{parts:List (Nat×Operand)}{z:Value}{td:TD}{Ls:List Cd}{vs cs:List Value}(h1:o.op= .buildSlice t len parts.toArray)(hg:o.guard=none)(h2:yN S (parts.map (·.2))=some (Ls,vs))(h3:ro [] Ls)(h4:lk t T=some (.slc e z))(h5:lk e T=some td)(h6:qe td.size vs=some cs)(h7:wH (parts.map (·.1)) 0=true)(h8:Nat.beq parts.length len=true)(h10:Nat.ble (len * td.size) 16777216=true)(hd:o.dst=some d)(hn:Nat.blt d n=true)(hM':∀g w,Mem w0 w (.cl g e cs::M)→Mem w0 w M'∧p w)(hk:(qp o.op).pure=false)(hk2:(qp o.op).read=false)(h:∀g,SY P l0 Z rest n w0 M' p ((d,[],.slice (some ⟨g,0,none⟩) len len)::S) (.cl g e cs::M)):SY P l0 Z (o::rest) n w0 M' p S M:=tG (fun _ h=>cc hT h1 hg h2 h3 h4 h5 h6 h7 h8 h10 hd hn h) hM' hg hk hk2 h
theorem zd{T:eV}(hT:TOK P T)(i j:Nat){s x:Operand}{t e e':TypeId}{z:Value}{td:TD}{a:Option Addr}{cap k m c b g:Nat}{xs news:List Value}{M2:Option Addr→Nat→List Ent}(h1:o.op= .call ⟨.builtin .append, #[s,x], #[t,t]⟩)(hg:o.guard=none)(h2:ev S s=some ([],.slice a k cap))(h3:ev S x=some ([],.slice (some ⟨g,0,none⟩) m c))(h4:lk t T=some (.slc e z))(h5:lk e T=some td)(h6:(match kC td with|some l=>Nat.beq l.length td.size&&Nat.blt 0 td.size|none=>false)=true)(hi:ez M i=some (.own a cap e td.size k xs))(hj:ez M j=some (.cl g e' news))(h9:∀a' cap',eP M i (.own a' cap' e td.size (k+m) (xs++news))=some (M2 a' cap'))(hb:fv P e b)(h7:fu news=true)(hlen:news.length=m * td.size)(hmax:k+m≤maxLen)(hbytes:(k+m) * b≤140737488355328)(hd:o.dst=some d)(hn:Nat.blt d n=true)(hM':∀a' cap' w,Mem w0 w (M2 a' cap')→Mem w0 w M'∧p w)(hk:(qp o.op).pure=false)(hk2:(qp o.op).read=false)(h:∀a' cap',SY P l0 Z rest n w0 M' p ((d,[],.slice a' (k+m) cap')::S) (M2 a' cap')):SY P l0 Z (o::rest) n w0 M' p S M:=tG (σ:=Option Addr×Nat) (N:=fun g=>M2 g.1 g.2) (S':=fun g=>(d,[],.slice g.1 (k+m) g.2)::S) (fun _ h=>bB hT i j h1 hg h2 h3 h4 h5 h6 hi hj h9 hb h7 hlen hmax hbytes hd hn fun a b=>h (a,b)) (fun g=>hM' g.1 g.2) hg hk hk2 fun g=>h g.1 g.2
theorem DD{N:List Ent}{S':co}(hs:∀Q:Exit→Act→World→Prop,SL P l0 Q [] n w0 S' N→SL P l0 Q [o] n w0 S M)(hg:o.guard=none)(h:SQ Q .normal n w0 S' N):SY P l0 (hX P l0.toArray o (Q .normal)) [] n w0 M' p S M:=by
 have hw:∀a:Act,Region.wanted o (yielded l0.toArray a.tmps)=true:=fun a=>by unfold Region.wanted;rw[hg]
 refine⟨fun a w hS hM=>dN (lx (hw a) fun K hK=> ?_)⟩
 have h1:=(hs (fun _ a' w'=>Sl n a' S'∧Mem w0 w' N) ⟨fun a w hS hM=>⟨hS,hM⟩⟩).run a w hS hM
 unfold tm at h1
 rw[hw a]at h1
 exact Vals.wp rfl h1 (fun v w' ⟨hS',hN⟩=>hK _ _ (h.run _ _ hS' hN))
end
theorem FG{s0:ByteArray}{R:Dc}{X1 X2:tn}{X3 X4:GZ}{e:Int}{m:FQ}(hR:bK s0=R)(h1:be s0 0=X1)(h2:be X1.rest X1.err=X2)(h3:cb X2.rest X2.err=X3)(h4:cb X3.rest X3.err=X4)(he:(if X4.err=0∧16<X4.num then 3 else X4.err)=e)(hm:dI X4.num X4.rest e []=m):R=jc s0 ⟨X1.text,X2.text,0,[]⟩ X3.num m:=by
 subst h1 h2 h3 h4 he hm hR
 rw[←wQ]
 rfl
theorem xW(b:Nat)(s:ByteArray)(e:Int)(X:tn)(h:be s e=X)(w:World)(hs:s.size≤4611686018427387900)(hk:Bk w b 157 ⟨[.string s,.int .i64 e]⟩):Calls Tryz.prog 141 #[.pointer (some ⟨b,0,none⟩)] w fun r w'=>r= .returned (.string X.text)∧Bk w' b 157 ⟨[.string X.rest,.int .i64 X.err]⟩∧w.grownBy w' (some b):=by
 subst h
 exact A5 b s e w hk hs
theorem Er(b:Nat)(s:ByteArray)(e:Int)(X:GZ)(h:cb s e=X)(w:World)(hs:s.size≤4611686018427387900)(hk:Bk w b 157 ⟨[.string s,.int .i64 e]⟩):Calls Tryz.prog 142 #[.pointer (some ⟨b,0,none⟩)] w fun r w'=>r= .returned (.int .u64 (X.num:Nat))∧Bk w' b 157 ⟨[.string X.rest,.int .i64 X.err]⟩∧w.grownBy w' (some b):=by
 subst h
 exact pT b s e w hk hs
theorem Hk(h:io)(a:Option Addr)(cap:Nat)(e:Int)(he:bG h=e)(w:World)(hg:MLen w)(hm:MsIn w (.slice a h.metas.length cap) h.metas)(hz:fK h):Calls Tryz.prog 44 #[.agg #[.string h.svc,.string h.mth,.int .i64 h.late,.slice a h.metas.length cap]] w fun r w'=>r= .returned (.tuple #[.string ⟨(fY h).bytes.toArray⟩,.int .i64 e])∧Below w.heap.size w w':=by
 have h1:=uF h (.slice a h.metas.length cap) w hg hm hz
 have h2:(fY h).err=e:=by
  rw[←he]
  unfold fY
  split
  · rename_i h0;exact h0.symm
  · rfl
 rw[h2]at h1
 exact h1
structure Ic where
 j:Nat
 s:ByteArray
 e:Int
 acc:List (ByteArray×ByteArray)
 a:Option Addr
 cap:Nat
attribute [local irreducible] Calls
theorem Hl(s0:ByteArray)(R:Dc)(hR:bK s0=R)(w:World)(hg:MLen w)(hs:s0.size<4294967281):Calls Tryz.prog 76 #[.string s0] w fun e w'=> ∃v,e= .returned (.tuple #[.agg (cX R.head v),.int .i64 R.err])∧w'.ownsRow w.heap.size MT 2 v R.head.metas.length (eC R.head.metas)∧Below w.heap.size w w':=by
 refine ai Tryz.func76 rfl Tryz.ntmps76 J J ?_
 obtain⟨X1,hX1⟩:∃x,be s0 0=x:=⟨_,rfl⟩
 obtain⟨X2,hX2⟩:∃x,be X1.rest X1.err=x:=⟨_,rfl⟩
 obtain⟨X3,hX3⟩:∃x,cb X2.rest X2.err=x:=⟨_,rfl⟩
 obtain⟨X4,hX4⟩:∃x,cb X3.rest X3.err=x:=⟨_,rfl⟩
 have hb1:=gL s0 0
 have hb2:=gL X1.rest X1.err
 have hb3:=mL X2.rest X2.err
 have hb4:=mL X3.rest X3.err
 have hl3:=pU X2.rest X2.err
 have hl4:=pU X3.rest X3.err
 rw[hX1]at hb1
 rw[hX2]at hb2
 rw[hX3]at hb3 hl3
 rw[hX4]at hb4 hl4
 repeat' (first|(refine al ?_;intro g2)|(refine bx ?_;intro g4)|refine jM 0 (fun w _ hm hk=>xW g4 s0 0 X1 hX1 w (by omega) hk) J J J (ag J J J J ⟨J,trivial⟩ rfl (by kernel_rfl)) J J ?_|refine jM 0 (fun w _ hm hk=>xW g4 X1.rest X1.err X2 hX2 w (by omega) hk) J J J (ag J J J J ⟨J,trivial⟩ rfl (by kernel_rfl)) J J ?_|refine jM 1 (fun w _ hm hk=>Er g4 X2.rest X2.err X3 hX3 w (by omega) hk) J J J (ag J J J J ⟨J,trivial⟩ rfl (by kernel_rfl)) J J ?_|refine jM 1 (fun w _ hm hk=>Er g4 X3.rest X3.err X4 hX4 w (by omega) hk) J J J (ag J J J J ⟨J,trivial⟩ rfl (by kernel_rfl)) J J ?_|refine nx ?_)
 rename_i gr
 obtain⟨e5,he5⟩:∃e,(if X4.err=0∧16<X4.num then 3 else X4.err)=e:=⟨_,rfl⟩
 obtain⟨MM,hMM⟩:∃m,dI X4.num X4.rest e5 []=m:=⟨_,rfl⟩
 have h6:=FG hR hX1 hX2 hX3 hX4 he5 hMM
 have he16:e5=0→X4.num≤16:=fun h=>by
  rw[h]at he5
  split at he5
  · cases he5
  · rename_i hc;exact Nat.le_of_not_lt fun h9=>hc ⟨he5,h9⟩
 refine bI (b:=(X4.err==0&&decide ((X4.num:Int)>16))) rfl (fun hc=> ?_) (fun hc=> ?_)
 all_goals
  first|(have he:(3:Int)=e5:=by rw[←he5,if_pos (by simp only[Bool.and_eq_true,decide_eq_true_eq,beq_iff_eq]at hc;omega)])|(have he:X4.err=e5:=by rw[←he5,if_neg (by simp only[Bool.and_eq_false_iff,decide_eq_false_iff_not,beq_eq_false_iff_ne]at hc;omega)])
  clear he5 hc
  repeat' refine nx ?_
  refine Bf MT 2 ?_
  refine bT (σ:=Ic) (fun q=>q.j≤X4.num∧(q.e=0→X4.num≤16)∧q.acc.length=q.j∧q.s.size≤s0.size∧dI (X4.num-q.j) q.s q.e q.acc=MM∧ ∀m∈q.acc,m.1.size≤s0.size∧m.2.size≤s0.size) (fun q=>[(8,[],.int .u64 ((q.j:Nat):Int)),(7,[],.int .u64 ((X4.num:Nat):Int)),(6,[],.int .u64 ((X3.num:Nat):Int)),(5,[],.pointer (some ⟨g2,0,none⟩)),(4,[],.pointer (some ⟨g4,0,none⟩)),(2,[],.pointer (some ⟨gr,0,none⟩)),(0,[],.string s0)]) (fun q=>[.own q.a q.cap 93 2 q.acc.length (eC q.acc),.cl g2 36 [.string X1.text,.string X2.text,.int .i64 0,.slice q.a q.acc.length q.cap],.cl g4 157 [.string q.s,.int .i64 q.e],.cl gr 36 [.string ⟨#[]⟩,.string ⟨#[]⟩,.int .i64 0,.slice none 0 0]]) (fun q=>X4.num-q.j) ⟨0,X4.rest,e5,[],none,0⟩ [] ⟨Nat.zero_le _,he16,rfl,(by dsimp only;omega),hMM,fun m hm=>by cases hm⟩ ⟨J,J,J,J,J,J,J,trivial⟩ (by rw[he];rfl) ?_
  clear hMM he he16
  rintro⟨j,s,e,acc,a,cap⟩ ⟨hj0,h16,hal,hsz,hmf,hac⟩
  dsimp only at hj0 h16 hal hsz hmf hac ⊢
  repeat' refine nx ?_
  refine bI (b:=(decide ((j:Int)<(X4.num:Int)) &&e==0)) rfl (fun hc=> ?_) (fun hc=> ?_)
  · obtain⟨hj,rfl⟩:j<X4.num∧e=0:=by simpa using hc
    have h16:=h16 rfl
    obtain⟨XA,hXA⟩:∃x,be s 0=x:=⟨_,rfl⟩
    obtain⟨XB,hXB⟩:∃x,be XA.rest XA.err=x:=⟨_,rfl⟩
    have hba:=gL s 0
    rw[hXA]at hba
    have hbb:=gL XA.rest XA.err
    rw[hXB]at hbb
    rw[show X4.num-j=(X4.num - (j+1))+1 by omega,dI,if_pos rfl,hXA,hXB]at hmf
    repeat' refine nx ?_
    refine cT [false,true,false,false] (fun _=>True) ak (by kernel_rfl) J J (fun _ _=>trivial) ?_
    repeat' (first|refine uY (fun Q h=>jM 2 (fun w _ hm hk=>xW g4 s 0 XA hXA w (by omega) hk) J J J (ag J J J J ⟨J,trivial⟩ rfl (by kernel_rfl)) J J h) (fun w hm=>⟨hm.mask [false,true,false,false] rfl,trivial⟩) J J J ?_|refine uY (fun Q h=>jM 2 (fun w _ hm hk=>xW g4 XA.rest XA.err XB hXB w (by omega) hk) J J J (ag J J J J ⟨J,trivial⟩ rfl (by kernel_rfl)) J J h) (fun w hm=>⟨hm.mask [false,true,false,false] rfl,trivial⟩) J J J ?_|(refine zb ae J J J ⟨J,trivial⟩ J J J J J J J J (fun g w hm=>⟨hm.mask [false,false,true,false,false] rfl,trivial⟩) J J ?_;intro g)|(refine zd ae 1 0 J J J J J J J J J (fun _ _=>rfl) wL J J (by unfold maxLen;omega) (by omega) J J (fun _ _ w hm=>⟨hm.mask [false,false,true,false,false] rfl,trivial⟩) J J ?_;intro sa sc)|refine DD (fun Q h=>av ae 2 J J J J J J J J J J J J h) rfl ?_|refine yv ?_)
    repeat' refine nx ?_
    rw[show IntKind.u64.wrap ((j:Int)+1)=((j+1:Nat):Int)by rw[IntKind.wrap_u64];omega]
    have hcl:eC acc++[.string XA.text,.string XB.text]=eC (acc++[(XA.text,XB.text)]):=(oS acc _ _).symm
    have hll:acc.length+1=(acc++[(XA.text,XB.text)]).length:=by simp
    refine aY (⟨j+1,XB.rest,XB.err,acc++[(XA.text,XB.text)],sa,sc⟩:Ic) [false,true,true,true,true] ⟨hj,fun _=>h16,(by dsimp only;rw[←hll,hal]),(by dsimp only;omega),hmf,fun m hm=> ?_⟩ (show X4.num - (j+1)<X4.num-j by omega) ⟨J,J,J,J,J,J,J,trivial⟩ (by rw[←hcl,←hll];rfl)
    rcases List.mem_append.1 hm with h|h
    · exact hac m h
    · rw[List.mem_singleton.1 h]
      exact⟨by dsimp only;omega,by dsimp only;omega⟩
  · have hME:MM=⟨acc,s,e⟩:=by
     rw[←hmf]
     by_cases he:e=0
     · subst he
       rw[show X4.num-j=0 by simp at hc;omega,dI]
     · exact iM _ _ he _
    clear hmf
    subst hME
    repeat' refine nx ?_
    by_cases he:e=0
    rotate_left
    · refine af rfl (by simpa using he) ?_
      obtain rfl:=h6.trans (tF rfl he)
      repeat' refine nx ?_
      refine qq [false,false,true,false] ak (by kernel_rfl) ?_
      repeat' (first|refine uW ae 3 J J J J J J J J J J J J (fun w h=>h.mask [false,false,true,false] rfl) ?_|refine Bz ?_|((refine' E1 J J ?_ J J ?_);rotate_left;first|exact ax ae J J J J|exact ab ae 0 J J J J J|exact aj ae J J trivial J J J))
      repeat' refine nx ?_
      refine rt ?_
      exact fun w1 hm=>⟨.slice none 0 0,rfl,World.ownsRow_nil _ _ _ _,hm.below⟩
    refine aa rfl (by simpa using he) ?_
    subst he
    unfold jc at h6
    dsimp only at h6
    rw[if_neg (by simp)]at h6
    repeat' refine nx ?_
    by_cases hs0:s.size=0
    rotate_left
    · rw[if_pos hs0]at h6
      subst h6
      refine af rfl (by rw[tz,decide_eq_false hs0];rfl) ?_
      repeat' refine nx ?_
      refine rt ?_
      exact fun w1 hm=>⟨.slice none 0 0,rfl,World.ownsRow_nil _ _ _ _,hm.below⟩
    rw[if_neg (by simpa using hs0)]at h6
    refine aa rfl (by rw[tz,decide_eq_true hs0];rfl) ?_
    repeat' refine nx ?_
    by_cases hu:1099511627776<X3.num
    · rw[if_pos hu]at h6
      subst h6
      refine af rfl (decide_eq_true (by omega)) ?_
      repeat' refine nx ?_
      refine rt ?_
      exact fun w1 hm=>⟨.slice none 0 0,rfl,World.ownsRow_nil _ _ _ _,hm.below⟩
    rw[if_neg hu]at h6
    refine aa rfl (decide_eq_false (by omega)) ?_
    have hwu:IntKind.i64.wrap ((X3.num:Nat):Int)=(X3.num:Int):=IntWalk.i64_in _ (by omega)
    obtain⟨H,hH⟩:∃h,(⟨X1.text,X2.text,((X3.num:Nat):Int),acc⟩:io)=h:=⟨_,rfl⟩
    obtain⟨e,he⟩:∃e,bG H=e:=⟨_,rfl⟩
    rw[hH,he]at h6
    have hz:fK H:=by
     rw[←hH]
     exact⟨by dsimp only;omega,by dsimp only;omega,fun m hm=>by have:=hac m hm;exact⟨by omega,by omega⟩⟩
    repeat' refine nx ?_
    rw[hwu]
    subst hH
    repeat' (first|refine cl (fun w hm=>Hk ⟨X1.text,X2.text,((X3.num:Nat):Int),acc⟩ a cap e he w (hg.below hm.below) (MsIn.own (hm.2.get (i:=0) rfl)) hz) ?_|refine nx ?_)
    by_cases h7:e=0
    rotate_left
    · rw[if_pos h7]at h6
      subst h6
      refine af rfl (by simpa using h7) ?_
      repeat' refine nx ?_
      refine rt ?_
      exact fun w1 hm=>⟨.slice none 0 0,rfl,World.ownsRow_nil _ _ _ _,hm.below⟩
    rw[if_neg (by simpa using h7)]at h6
    subst h7
    refine aa J J ?_
    rw[ke he]
    repeat' refine nx ?_
    by_cases h8:fX ⟨X1.text,X2.text,((X3.num:Nat):Int),acc⟩=s0.data.toList
    rotate_left
    · rw[if_pos h8]at h6
      subst h6
      refine af rfl (by rw[ByteArray.toList_eq,ByteArray.toList_eq];simpa using h8) ?_
      repeat' refine nx ?_
      refine rt ?_
      exact fun w1 hm=>⟨.slice none 0 0,rfl,World.ownsRow_nil _ _ _ _,hm.below⟩
    rw[if_neg (by simpa using h8)]at h6
    subst h6
    refine aa rfl (by rw[ByteArray.toList_eq,ByteArray.toList_eq];simpa using h8) ?_
    repeat' refine nx ?_
    refine rt ?_
    exact fun w1 hm=>⟨.slice a acc.length cap,rfl,hm.2.get (i:=0) rfl,hm.below⟩
end Go.Proofs.YthiocbcokfondaaGreatDoor.Y
namespace Go.Proofs.YthiocbcokfondaaGreatDoor
section
theorem lR(s0:ByteArray)(w:World)(hg:MLen w)(hs:s0.size<4294967281):Calls Tryz.prog 76 #[.string s0] w (xT (bK s0) w):=Y.Hl s0 _ rfl w hg hs
theorem tH(s0:ByteArray)(w:World)(hg:MLen w)(hs:s0.size<4294967281):Calls Tryz.prog 76 #[.string s0] w (Bu (bK s0) w):=
 (lR s0 w hg hs).mono fun _ _ ⟨v,h1,h2,h3⟩=>⟨v,h1,MsIn.own h2,h3⟩
end
section
open Go.RowKit
abbrev bg(f:aS):Array Value:= #[.int .i64 f.kind,.int .i64 f.strm,.int .i64 f.num,.string f.data]
abbrev FT:TypeId:=65
theorem tI(k s n:Int)(d:ByteArray)(w:World):
 Calls Tryz.prog 73 #[.agg #[.int .i64 k,.int .i64 s,.int .i64 n,.string d]] w fun e w'=>e= .returned (.bool (bW k s))∧Below w.heap.size w w':=by
 go_enter Tryz.func73,Tryz.ntmps73
 go_wp2
 all_goals
  go_ret
  refine⟨aE ?_,(Below.refl _ _).alloc (Nat.le_refl _) _⟩
  unfold bW
  rw[Bool.eq_iff_iff]
  (repeat' split)<;>simp_all<;>omega
theorem eK(k s n:Int)(d:ByteArray)(w:World):
 Calls Tryz.prog 84 #[.agg #[.int .i64 k,.int .i64 s,.int .i64 n,.string d]] w fun e w'=>e= .returned (.bool (bW k s))∧Below w.heap.size w w':=by
 go_enter Tryz.func84,Tryz.ntmps84
 go_wp2
 all_goals
  go_ret
  refine⟨aE ?_,(Below.refl _ _).alloc (Nat.le_refl _) _⟩
  unfold bW
  rw[Bool.eq_iff_iff]
  (repeat' split)<;>simp_all<;>omega
theorem wR(k s n:Int)(d:ByteArray)(w:World):
 Calls Tryz.prog 75 #[.agg #[.int .i64 k,.int .i64 s,.int .i64 n,.string d]] w fun e w'=>e= .returned (.bool (db k d))∧Below w.heap.size w w':=by
 have hz:(d.toList.isEmpty)=decide (d.size=0):=by
  by_cases h:d.size=0
  · rw[(pN h).1,decide_eq_true h]
  · rw[(gl h).1,decide_eq_false h]
 have hz2:(d.toList==[])=decide (d.size=0):=by rw[←hz];cases d.toList<;>rfl
 go_enter Tryz.func75,Tryz.ntmps75
 go_wp2
 all_goals
  go_ret
  refine⟨aE ?_,(Below.refl _ _).alloc (Nat.le_refl _) _⟩
  unfold db
  simp_all
theorem ze(n:Int)(w:World):
 Calls Tryz.prog 140 #[.int .i64 n] w fun e w'=>e= .returned (.bool (decide (1≤n∧n≤4)))∧w=w':=by
 have HC:=Lib.hid (fun w=>counts n w)
 have h2:(c2 n !=0)=decide (1≤n∧n≤4):=by
  unfold c2 pr FY
  rw[Bool.eq_iff_iff]
  (repeat' split)<;>simp_all<;>omega
 have H2:=Lib.hid h2;clear h2
 generalize c1 n=x1 at *
 generalize c2 n=x2 at *
 generalize c3 n=x3 at *
 generalize c4 n=x4 at *
 go_enter Tryz.func140,Tryz.ntmps140
 go_wp2_with fail
 refine(HC.out _).mono ?_;rintro e w1 ⟨rfl,rfl⟩
 go_wp2_with fail
 go_ret
 exact⟨aE (by rw[←H2.out]),rfl⟩
theorem iN(k s n:Int)(d:ByteArray)(w:World):
 Calls Tryz.prog 85 #[.agg #[.int .i64 k,.int .i64 s,.int .i64 n,.string d]] w fun e w'=>e= .returned (.bool (cV k n))∧Below w.heap.size w w':=by
 go_enter Tryz.func85,Tryz.ntmps85
 go_wp2
 all_goals
  go_ret
  refine⟨aE ?_,(Below.refl _ _).alloc (Nat.le_refl _) _⟩
  unfold cV
  rw[Bool.eq_iff_iff]
  (repeat' split)<;>simp_all<;>omega
theorem tJ(k s n:Int)(d:ByteArray)(w:World):
 Calls Tryz.prog 74 #[.agg #[.int .i64 k,.int .i64 s,.int .i64 n,.string d]] w fun e w'=>e= .returned (.bool (cV k n))∧Below w.heap.size w w':=by
 by_cases h1:k=1
 · subst h1
   have HS:=Lib.hid (fun w=>ze n w)
   go_enter Tryz.func74,Tryz.ntmps74
   go_wp2_with fail
   refine(HS.out _).mono ?_;rintro e w1 ⟨rfl,rfl⟩
   go_wp2_with fail
   go_ret
   exact⟨aE (by unfold cV;rw[if_pos rfl];simp),(Below.refl _ _).alloc (Nat.le_refl _) _⟩
 · have q1:=(aB h1).1
   go_enter Tryz.func74,Tryz.ntmps74
   go_wp2
   all_goals
    go_ret
    refine⟨aE ?_,(Below.refl _ _).alloc (Nat.le_refl _) _⟩
    unfold cV
    rw[Bool.eq_iff_iff]
    (repeat' split)<;>simp_all<;>omega
end
section
open Go.RowKit
theorem bz{f:aS}(h:f.kind<1∨9<f.kind∨bW f.kind f.strm=false∨cV f.kind f.num=false∨db f.kind f.data=false):aA f=1:=by unfold aA;rw[if_pos h]
theorem dB{f:aS}(h:¬ (f.kind<1∨9<f.kind∨bW f.kind f.strm=false∨cV f.kind f.num=false∨db f.kind f.data=false))(h2:16384<f.data.size∨2147483647<f.strm):aA f=3:=by unfold aA;rw[if_neg h,if_pos h2]
theorem fI{f:aS}(h:¬ (f.kind<1∨9<f.kind∨bW f.kind f.strm=false∨cV f.kind f.num=false∨db f.kind f.data=false))(h2:¬ (16384<f.data.size∨2147483647<f.strm)):aA f=if f.kind=1 then(bK f.data).err else if f.kind=4 then(bj f.data).err else 0:=by unfold aA;rw[if_neg h,if_neg h2]
theorem am{n:Nat}{w w1 w2:World}(h:Below n w w1)(hn:n≤w.heap.size)(h2:Below w1.heap.size w1 w2):Below n w w2:=h.trans (h2.mono (Nat.le_trans hn h.size))
theorem cH(w:World)(o:Obj):Below w.heap.size w (w.alloc o):=(Below.refl _ _).alloc (Nat.le_refl _) _
theorem aq{w w':World}{f:aS}(h:Below (w.heap.size+1) (w.alloc (Obj.cells (bg f) FT)) w'):
 w'.cell? ⟨w.heap.size,0,none⟩=some (.int .i64 f.kind)∧w'.cell? ⟨w.heap.size,1,none⟩=some (.int .i64 f.strm)∧w'.cell? ⟨w.heap.size,2,none⟩=some (.int .i64 f.num)∧w'.cell? ⟨w.heap.size,3,none⟩=some (.string f.data):=by
 have hB:Bk w' w.heap.size FT (bg f):=(h.block _ (Nat.lt_succ_self _)).trans (Bk.new w FT (bg f))
 exact⟨hB.at_ 0 rfl,hB.at_ 1 rfl,hB.at_ 2 rfl,hB.at_ 3 rfl⟩
theorem au{w w':World}{o:Obj}(h:Below (w.heap.size+1) (w.alloc o) w'):Below w.heap.size w w':=(cH w o).trans (h.mono (Nat.le_succ _))
theorem mo(f:aS)(w:World)(hlen:MLen w)(hs:f.data.size<4294967281):
 Calls Tryz.prog 30 #[.agg (bg f)] w fun e w'=>e= .returned (.int .i64 (aA f))∧Below w.heap.size w w':=by
 obtain⟨k,s,n,d⟩:=f
 have HG:=Lib.hid hlen;clear hlen
 have hs:d.size<4294967281:=hs
 have HS:=Lib.hid (fun w=>tI k s n d w)
 have HN:=Lib.hid (fun w=>tJ k s n d w)
 have HF:=Lib.hid (fun w=>wR k s n d w)
 have HH:=Lib.hid (fun w hg=>tH d w hg hs)
 have HU:=Lib.hid (fun w=>mn d w (by omega))
 by_cases h1:k<1
 · have HR:=Lib.hid (bz (f:=⟨k,s,n,d⟩) (.inl h1))
   have HB0:=Lib.hid (cH w (Obj.cells (bg ⟨k,s,n,d⟩) FT));have KB0:=Lib.hid (Below.refl (w.heap.size+1) (w.alloc (Obj.cells (bg ⟨k,s,n,d⟩) FT)));have hsz:w.heap.size+1≤(w.alloc (Obj.cells (bg ⟨k,s,n,d⟩) FT)).heap.size:=by simp
   go_enter Tryz.func30,Tryz.ntmps30
   go_wp2_with fail
   go_ret
   exact⟨by(rw[HR.out];try rfl),HB0.out⟩
 by_cases h2:9<k
 · have HR:=Lib.hid (bz (f:=⟨k,s,n,d⟩) (.inr (.inl h2)))
   have HB0:=Lib.hid (cH w (Obj.cells (bg ⟨k,s,n,d⟩) FT));have KB0:=Lib.hid (Below.refl (w.heap.size+1) (w.alloc (Obj.cells (bg ⟨k,s,n,d⟩) FT)));have hsz:w.heap.size+1≤(w.alloc (Obj.cells (bg ⟨k,s,n,d⟩) FT)).heap.size:=by simp
   go_enter Tryz.func30,Tryz.ntmps30
   go_wp2_with fail
   go_ret
   exact⟨by(rw[HR.out];try rfl),HB0.out⟩
 by_cases h3:bW k s=false
 · have HR:=Lib.hid (bz (f:=⟨k,s,n,d⟩) (.inr (.inr (.inl h3))))
   have HB0:=Lib.hid (cH w (Obj.cells (bg ⟨k,s,n,d⟩) FT));have KB0:=Lib.hid (Below.refl (w.heap.size+1) (w.alloc (Obj.cells (bg ⟨k,s,n,d⟩) FT)));have hsz:w.heap.size+1≤(w.alloc (Obj.cells (bg ⟨k,s,n,d⟩) FT)).heap.size:=by simp
   rw[h3]at HS
   clear h3
   go_enter Tryz.func30,Tryz.ntmps30
   go_wp2_with fail
   refine(HS.out _).mono ?_;rintro e w1 ⟨rfl,hb1⟩
   have KB1:=Lib.hid (am KB0.out hsz hb1);have HB1:=Lib.hid (au KB1.out);obtain⟨c10,c11,c12,c13⟩:=aq (f:=⟨k,s,n,d⟩) KB1.out
   go_wp2_with fail
   go_ret
   exact⟨by(rw[HR.out];try rfl),HB1.out⟩
 have h3t:bW k s=true:=by cases h:bW k s<;>simp_all
 rw[h3t]at HS
 by_cases h4:cV k n=false
 · have HR:=Lib.hid (bz (f:=⟨k,s,n,d⟩) (.inr (.inr (.inr (.inl h4)))))
   have HB0:=Lib.hid (cH w (Obj.cells (bg ⟨k,s,n,d⟩) FT));have KB0:=Lib.hid (Below.refl (w.heap.size+1) (w.alloc (Obj.cells (bg ⟨k,s,n,d⟩) FT)));have hsz:w.heap.size+1≤(w.alloc (Obj.cells (bg ⟨k,s,n,d⟩) FT)).heap.size:=by simp
   rw[h4]at HN
   clear h4
   go_enter Tryz.func30,Tryz.ntmps30
   go_wp2_with fail
   refine(HS.out _).mono ?_;rintro e w1 ⟨rfl,hb1⟩
   have KB1:=Lib.hid (am KB0.out hsz hb1);have HB1:=Lib.hid (au KB1.out);obtain⟨c10,c11,c12,c13⟩:=aq (f:=⟨k,s,n,d⟩) KB1.out
   go_wp2_with fail
   refine(HN.out _).mono ?_;rintro e w2 ⟨rfl,hb2⟩
   have KB2:=Lib.hid (am KB1.out hsz hb2);have HB2:=Lib.hid (au KB2.out);obtain⟨c20,c21,c22,c23⟩:=aq (f:=⟨k,s,n,d⟩) KB2.out
   go_wp2_with fail
   go_ret
   exact⟨by(rw[HR.out];try rfl),HB2.out⟩
 have h4t:cV k n=true:=by cases h:cV k n<;>simp_all
 rw[h4t]at HN
 by_cases h5:db k d=false
 · have HR:=Lib.hid (bz (f:=⟨k,s,n,d⟩) (.inr (.inr (.inr (.inr h5)))))
   have HB0:=Lib.hid (cH w (Obj.cells (bg ⟨k,s,n,d⟩) FT));have KB0:=Lib.hid (Below.refl (w.heap.size+1) (w.alloc (Obj.cells (bg ⟨k,s,n,d⟩) FT)));have hsz:w.heap.size+1≤(w.alloc (Obj.cells (bg ⟨k,s,n,d⟩) FT)).heap.size:=by simp
   rw[h5]at HF
   clear h3 h3t h4 h4t h5
   go_enter Tryz.func30,Tryz.ntmps30
   go_wp2_with fail
   refine(HS.out _).mono ?_;rintro e w1 ⟨rfl,hb1⟩
   have KB1:=Lib.hid (am KB0.out hsz hb1);have HB1:=Lib.hid (au KB1.out);obtain⟨c10,c11,c12,c13⟩:=aq (f:=⟨k,s,n,d⟩) KB1.out
   go_wp2_with fail
   refine(HN.out _).mono ?_;rintro e w2 ⟨rfl,hb2⟩
   have KB2:=Lib.hid (am KB1.out hsz hb2);have HB2:=Lib.hid (au KB2.out);obtain⟨c20,c21,c22,c23⟩:=aq (f:=⟨k,s,n,d⟩) KB2.out
   go_wp2_with fail
   refine(HF.out _).mono ?_;rintro e w3 ⟨rfl,hb3⟩
   have KB3:=Lib.hid (am KB2.out hsz hb3);have HB3:=Lib.hid (au KB3.out);obtain⟨c30,c31,c32,c33⟩:=aq (f:=⟨k,s,n,d⟩) KB3.out
   go_wp2_with fail
   go_ret
   exact⟨by(rw[HR.out];try rfl),HB3.out⟩
 have h5t:db k d=true:=by cases h:db k d<;>simp_all
 rw[h5t]at HF
 have hE:¬ (k<1∨9<k∨bW k s=false∨cV k n=false∨db k d=false):=by simp_all
 by_cases h6:16384<d.size
 · have HR:=Lib.hid (dB (f:=⟨k,s,n,d⟩) hE (.inl h6))
   have HB0:=Lib.hid (cH w (Obj.cells (bg ⟨k,s,n,d⟩) FT));have KB0:=Lib.hid (Below.refl (w.heap.size+1) (w.alloc (Obj.cells (bg ⟨k,s,n,d⟩) FT)));have hsz:w.heap.size+1≤(w.alloc (Obj.cells (bg ⟨k,s,n,d⟩) FT)).heap.size:=by simp
   clear h3 h3t h4 h4t h5 h5t hE
   go_enter Tryz.func30,Tryz.ntmps30
   go_wp2_with fail
   refine(HS.out _).mono ?_;rintro e w1 ⟨rfl,hb1⟩
   have KB1:=Lib.hid (am KB0.out hsz hb1);have HB1:=Lib.hid (au KB1.out);obtain⟨c10,c11,c12,c13⟩:=aq (f:=⟨k,s,n,d⟩) KB1.out
   go_wp2_with fail
   refine(HN.out _).mono ?_;rintro e w2 ⟨rfl,hb2⟩
   have KB2:=Lib.hid (am KB1.out hsz hb2);have HB2:=Lib.hid (au KB2.out);obtain⟨c20,c21,c22,c23⟩:=aq (f:=⟨k,s,n,d⟩) KB2.out
   go_wp2_with fail
   refine(HF.out _).mono ?_;rintro e w3 ⟨rfl,hb3⟩
   have KB3:=Lib.hid (am KB2.out hsz hb3);have HB3:=Lib.hid (au KB3.out);obtain⟨c30,c31,c32,c33⟩:=aq (f:=⟨k,s,n,d⟩) KB3.out
   go_wp2_with fail
   go_ret
   exact⟨by(rw[HR.out];try rfl),HB3.out⟩
 by_cases h7:2147483647<s
 · have HR:=Lib.hid (dB (f:=⟨k,s,n,d⟩) hE (.inr h7))
   have HB0:=Lib.hid (cH w (Obj.cells (bg ⟨k,s,n,d⟩) FT));have KB0:=Lib.hid (Below.refl (w.heap.size+1) (w.alloc (Obj.cells (bg ⟨k,s,n,d⟩) FT)));have hsz:w.heap.size+1≤(w.alloc (Obj.cells (bg ⟨k,s,n,d⟩) FT)).heap.size:=by simp
   clear h3 h3t h4 h4t h5 h5t hE
   go_enter Tryz.func30,Tryz.ntmps30
   go_wp2_with fail
   refine(HS.out _).mono ?_;rintro e w1 ⟨rfl,hb1⟩
   have KB1:=Lib.hid (am KB0.out hsz hb1);have HB1:=Lib.hid (au KB1.out);obtain⟨c10,c11,c12,c13⟩:=aq (f:=⟨k,s,n,d⟩) KB1.out
   go_wp2_with fail
   refine(HN.out _).mono ?_;rintro e w2 ⟨rfl,hb2⟩
   have KB2:=Lib.hid (am KB1.out hsz hb2);have HB2:=Lib.hid (au KB2.out);obtain⟨c20,c21,c22,c23⟩:=aq (f:=⟨k,s,n,d⟩) KB2.out
   go_wp2_with fail
   refine(HF.out _).mono ?_;rintro e w3 ⟨rfl,hb3⟩
   have KB3:=Lib.hid (am KB2.out hsz hb3);have HB3:=Lib.hid (au KB3.out);obtain⟨c30,c31,c32,c33⟩:=aq (f:=⟨k,s,n,d⟩) KB3.out
   go_wp2_with fail
   go_ret
   exact⟨by(rw[HR.out];try rfl),HB3.out⟩
 have hE2:¬ (16384<d.size∨2147483647<s):=by omega
 have HE:=Lib.hid (fI (f:=⟨k,s,n,d⟩) hE hE2)
 clear h3 h3t h4 h4t h5 h5t hE hE2
 have HB0:=Lib.hid (cH w (Obj.cells (bg ⟨k,s,n,d⟩) FT));have KB0:=Lib.hid (Below.refl (w.heap.size+1) (w.alloc (Obj.cells (bg ⟨k,s,n,d⟩) FT)));have hsz:w.heap.size+1≤(w.alloc (Obj.cells (bg ⟨k,s,n,d⟩) FT)).heap.size:=by simp
 by_cases h8:k=1
 · subst h8
   have HR:=Lib.hid (HE.out.trans (if_pos rfl))
   go_enter Tryz.func30,Tryz.ntmps30
   go_wp2_with fail
   refine(HS.out _).mono ?_;rintro e w1 ⟨rfl,hb1⟩
   have KB1:=Lib.hid (am KB0.out hsz hb1);have HB1:=Lib.hid (au KB1.out);obtain⟨c10,c11,c12,c13⟩:=aq (f:=⟨1,s,n,d⟩) KB1.out
   go_wp2_with fail
   refine(HN.out _).mono ?_;rintro e w2 ⟨rfl,hb2⟩
   have KB2:=Lib.hid (am KB1.out hsz hb2);have HB2:=Lib.hid (au KB2.out);obtain⟨c20,c21,c22,c23⟩:=aq (f:=⟨1,s,n,d⟩) KB2.out
   go_wp2_with fail
   refine(HF.out _).mono ?_;rintro e w3 ⟨rfl,hb3⟩
   have KB3:=Lib.hid (am KB2.out hsz hb3);have HB3:=Lib.hid (au KB3.out);obtain⟨c30,c31,c32,c33⟩:=aq (f:=⟨1,s,n,d⟩) KB3.out
   go_wp2_with fail
   refine(HH.out _ (HG.out.below HB3.out)).mono ?_;rintro e w4 ⟨v,rfl,hmi,hb4⟩
   have KB4:=Lib.hid (am KB3.out hsz hb4);have HB4:=Lib.hid (au KB4.out)
   clear hmi
   go_wp2_with fail
   go_ret
   exact⟨by(rw[HR.out];try rfl),HB4.out⟩
 by_cases h9:k=4
 · subst h9
   have HR:=Lib.hid (HE.out.trans ((if_neg (by simp)).trans (if_pos rfl)))
   go_enter Tryz.func30,Tryz.ntmps30
   go_wp2_with fail
   refine(HS.out _).mono ?_;rintro e w1 ⟨rfl,hb1⟩
   have KB1:=Lib.hid (am KB0.out hsz hb1);have HB1:=Lib.hid (au KB1.out);obtain⟨c10,c11,c12,c13⟩:=aq (f:=⟨4,s,n,d⟩) KB1.out
   go_wp2_with fail
   refine(HN.out _).mono ?_;rintro e w2 ⟨rfl,hb2⟩
   have KB2:=Lib.hid (am KB1.out hsz hb2);have HB2:=Lib.hid (au KB2.out);obtain⟨c20,c21,c22,c23⟩:=aq (f:=⟨4,s,n,d⟩) KB2.out
   go_wp2_with fail
   refine(HF.out _).mono ?_;rintro e w3 ⟨rfl,hb3⟩
   have KB3:=Lib.hid (am KB2.out hsz hb3);have HB3:=Lib.hid (au KB3.out);obtain⟨c30,c31,c32,c33⟩:=aq (f:=⟨4,s,n,d⟩) KB3.out
   go_wp2_with fail
   refine(HU.out _).mono ?_;rintro e w4 ⟨rfl,hb4⟩
   have KB4:=Lib.hid (am KB3.out hsz hb4);have HB4:=Lib.hid (au KB4.out);obtain⟨c40,c41,c42,c43⟩:=aq (f:=⟨4,s,n,d⟩) KB4.out
   go_wp2_with fail
   go_ret
   exact⟨by(rw[HR.out];try rfl),HB4.out⟩
 have HR:=Lib.hid (HE.out.trans ((if_neg h8).trans (if_neg h9)))
 go_enter Tryz.func30,Tryz.ntmps30
 go_wp2_with fail
 refine(HS.out _).mono ?_;rintro e w1 ⟨rfl,hb1⟩
 have KB1:=Lib.hid (am KB0.out hsz hb1);have HB1:=Lib.hid (au KB1.out);obtain⟨c10,c11,c12,c13⟩:=aq (f:=⟨k,s,n,d⟩) KB1.out
 go_wp2_with fail
 refine(HN.out _).mono ?_;rintro e w2 ⟨rfl,hb2⟩
 have KB2:=Lib.hid (am KB1.out hsz hb2);have HB2:=Lib.hid (au KB2.out);obtain⟨c20,c21,c22,c23⟩:=aq (f:=⟨k,s,n,d⟩) KB2.out
 go_wp2_with fail
 refine(HF.out _).mono ?_;rintro e w3 ⟨rfl,hb3⟩
 have KB3:=Lib.hid (am KB2.out hsz hb3);have HB3:=Lib.hid (au KB3.out);obtain⟨c30,c31,c32,c33⟩:=aq (f:=⟨k,s,n,d⟩) KB3.out
 go_wp2_with fail
 go_ret
 exact⟨by(rw[HR.out];try rfl),HB3.out⟩
theorem BD{k:Int}{d:ByteArray}(h:db k d=false):¬k=1∧ ¬k=2∧ ¬k=4∧ ¬d.size=0:=by
 unfold db at h
 simp only[Bool.or_eq_false_iff,decide_eq_false_iff_not,not_or]at h
 exact⟨h.1.1,h.1.2.1,h.1.2.2,h.2⟩
theorem DE{k:Int}{d:ByteArray}(h:db k d=true):(k=1∨k=2∨k=4)∨(¬ (k=1∨k=2∨k=4)∧d=⟨#[]⟩):=by
 unfold db at h
 by_cases hk:k=1∨k=2∨k=4
 · exact .inl hk
 · rw[decide_eq_false hk,Bool.false_or,decide_eq_true_iff]at h;exact .inr ⟨hk,ByteArray.ext (Array.eq_empty_of_size_eq_zero h)⟩
theorem Gf(s n:Int)(d:ByteArray)(w:World)(hs:d.size<4294967281)(hd:¬d.size=0):
 Calls Tryz.prog 34 #[.agg (bg ⟨1,s,n,d⟩)] w fun e w'=>e= .returned (.int .i64 (aA ⟨1,s,n,d⟩))∧Below w.heap.size w w':=by
 have hde:=gl hd
 have HS:=Lib.hid (fun w=>eK 1 s n d w)
 have HN:=Lib.hid (fun w=>iN 1 s n d w)
 have HH:=Lib.hid (fun w=>lQ d w hs)
 have HB0:=Lib.hid (cH w (Obj.cells (bg ⟨1,s,n,d⟩) FT));have KB0:=Lib.hid (Below.refl (w.heap.size+1) (w.alloc (Obj.cells (bg ⟨1,s,n,d⟩) FT)));have hsz:w.heap.size+1≤(w.alloc (Obj.cells (bg ⟨1,s,n,d⟩) FT)).heap.size:=by simp
 by_cases h3:bW 1 s=false
 · have HR:=Lib.hid (bz (f:=⟨1,s,n,d⟩) (.inr (.inr (.inl h3))))
   rw[h3]at HS;clear h3
   go_enter Tryz.func34,Tryz.ntmps34
   go_wp2_with fail
   refine(HS.out _).mono ?_;rintro e w1 ⟨rfl,hb1⟩
   have KB1:=Lib.hid (am KB0.out hsz hb1);have HB1:=Lib.hid (au KB1.out);obtain⟨c10,c11,c12,c13⟩:=aq (f:=⟨1,s,n,d⟩) KB1.out
   go_wp2_with fail
   go_ret
   exact⟨by(rw[HR.out];try rfl),HB1.out⟩
 have h3t:bW 1 s=true:=by cases h:bW 1 s<;>simp_all
 rw[h3t]at HS
 by_cases h4:cV 1 n=false
 · have HR:=Lib.hid (bz (f:=⟨1,s,n,d⟩) (.inr (.inr (.inr (.inl h4)))))
   rw[h4]at HN;clear h3 h3t h4
   go_enter Tryz.func34,Tryz.ntmps34
   go_wp2_with fail
   refine(HS.out _).mono ?_;rintro e w1 ⟨rfl,hb1⟩
   have KB1:=Lib.hid (am KB0.out hsz hb1);have HB1:=Lib.hid (au KB1.out);obtain⟨c10,c11,c12,c13⟩:=aq (f:=⟨1,s,n,d⟩) KB1.out
   go_wp2_with fail
   refine(HN.out _).mono ?_;rintro e w2 ⟨rfl,hb2⟩
   have KB2:=Lib.hid (am KB1.out hsz hb2);have HB2:=Lib.hid (au KB2.out);obtain⟨c20,c21,c22,c23⟩:=aq (f:=⟨1,s,n,d⟩) KB2.out
   go_wp2_with fail
   go_ret
   exact⟨by(rw[HR.out];try rfl),HB2.out⟩
 have h4t:cV 1 n=true:=by cases h:cV 1 n<;>simp_all
 rw[h4t]at HN
 have h5t:db 1 d=true:=rfl
 have hE:¬ ((1:Int)<1∨9<(1:Int)∨bW 1 s=false∨cV 1 n=false∨db 1 d=false):=by rw[h3t,h4t,h5t];simp
 by_cases h6:16384<d.size
 · have HR:=Lib.hid (dB (f:=⟨1,s,n,d⟩) hE (.inl h6))
   clear h3 h3t h4 h4t h5t hE
   go_enter Tryz.func34,Tryz.ntmps34
   go_wp2_with fail
   refine(HS.out _).mono ?_;rintro e w1 ⟨rfl,hb1⟩
   have KB1:=Lib.hid (am KB0.out hsz hb1);have HB1:=Lib.hid (au KB1.out);obtain⟨c10,c11,c12,c13⟩:=aq (f:=⟨1,s,n,d⟩) KB1.out
   go_wp2_with fail
   refine(HN.out _).mono ?_;rintro e w2 ⟨rfl,hb2⟩
   have KB2:=Lib.hid (am KB1.out hsz hb2);have HB2:=Lib.hid (au KB2.out);obtain⟨c20,c21,c22,c23⟩:=aq (f:=⟨1,s,n,d⟩) KB2.out
   go_wp2_with fail
   go_ret
   exact⟨by(rw[HR.out];try rfl),HB2.out⟩
 by_cases h7:2147483647<s
 · have HR:=Lib.hid (dB (f:=⟨1,s,n,d⟩) hE (.inr h7))
   clear h3 h3t h4 h4t h5t hE
   go_enter Tryz.func34,Tryz.ntmps34
   go_wp2_with fail
   refine(HS.out _).mono ?_;rintro e w1 ⟨rfl,hb1⟩
   have KB1:=Lib.hid (am KB0.out hsz hb1);have HB1:=Lib.hid (au KB1.out);obtain⟨c10,c11,c12,c13⟩:=aq (f:=⟨1,s,n,d⟩) KB1.out
   go_wp2_with fail
   refine(HN.out _).mono ?_;rintro e w2 ⟨rfl,hb2⟩
   have KB2:=Lib.hid (am KB1.out hsz hb2);have HB2:=Lib.hid (au KB2.out);obtain⟨c20,c21,c22,c23⟩:=aq (f:=⟨1,s,n,d⟩) KB2.out
   go_wp2_with fail
   go_ret
   exact⟨by(rw[HR.out];try rfl),HB2.out⟩
 have hE2:¬ (16384<(d:ByteArray).size∨2147483647<s):=by omega
 have HR:=Lib.hid ((fI (f:=⟨1,s,n,d⟩) hE hE2).trans (if_pos rfl))
 clear h3 h3t h4 h4t h5t hE hE2
 go_enter Tryz.func34,Tryz.ntmps34
 go_wp2_with fail
 refine(HS.out _).mono ?_;rintro e w1 ⟨rfl,hb1⟩
 have KB1:=Lib.hid (am KB0.out hsz hb1);have HB1:=Lib.hid (au KB1.out);obtain⟨c10,c11,c12,c13⟩:=aq (f:=⟨1,s,n,d⟩) KB1.out
 go_wp2_with fail
 refine(HN.out _).mono ?_;rintro e w2 ⟨rfl,hb2⟩
 have KB2:=Lib.hid (am KB1.out hsz hb2);have HB2:=Lib.hid (au KB2.out);obtain⟨c20,c21,c22,c23⟩:=aq (f:=⟨1,s,n,d⟩) KB2.out
 go_wp2_with fail
 refine(HH.out _).mono ?_;rintro e w3 ⟨v,rfl,hmi,hb3⟩
 have KB3:=Lib.hid (am KB2.out hsz hb3);have HB3:=Lib.hid (au KB3.out)
 generalize bK d=R at *
 obtain⟨⟨q1,q2,q3,q4⟩,q5⟩:=R
 obtain⟨ao,cp,rfl,_⟩:=hmi
 go_wp2_with fail
 go_ret
 exact⟨by(rw[HR.out];try rfl),HB3.out.alloc HB3.out.size _⟩
theorem E2(s n:Int)(d:ByteArray)(w:World)(hs:d.size<4294967281)(hd:d=⟨#[]⟩):
 Calls Tryz.prog 34 #[.agg (bg ⟨1,s,n,d⟩)] w fun e w'=>e= .returned (.int .i64 (aA ⟨1,s,n,d⟩))∧Below w.heap.size w w':=by
 subst hd
 have HS:=Lib.hid (fun w=>eK 1 s n (⟨#[]⟩:ByteArray) w)
 have HN:=Lib.hid (fun w=>iN 1 s n (⟨#[]⟩:ByteArray) w)
 have HH:=Lib.hid (fun w=>lQ (⟨#[]⟩:ByteArray) w hs)
 have HB0:=Lib.hid (cH w (Obj.cells (bg ⟨1,s,n,(⟨#[]⟩:ByteArray)⟩) FT));have KB0:=Lib.hid (Below.refl (w.heap.size+1) (w.alloc (Obj.cells (bg ⟨1,s,n,(⟨#[]⟩:ByteArray)⟩) FT)));have hsz:w.heap.size+1≤(w.alloc (Obj.cells (bg ⟨1,s,n,(⟨#[]⟩:ByteArray)⟩) FT)).heap.size:=by simp
 by_cases h3:bW 1 s=false
 · have HR:=Lib.hid (bz (f:=⟨1,s,n,(⟨#[]⟩:ByteArray)⟩) (.inr (.inr (.inl h3))))
   rw[h3]at HS;clear h3
   go_enter Tryz.func34,Tryz.ntmps34
   go_wp2_with fail
   refine(HS.out _).mono ?_;rintro e w1 ⟨rfl,hb1⟩
   have KB1:=Lib.hid (am KB0.out hsz hb1);have HB1:=Lib.hid (au KB1.out);obtain⟨c10,c11,c12,c13⟩:=aq (f:=⟨1,s,n,(⟨#[]⟩:ByteArray)⟩) KB1.out
   go_wp2_with fail
   go_ret
   exact⟨by(rw[HR.out];try rfl),HB1.out⟩
 have h3t:bW 1 s=true:=by cases h:bW 1 s<;>simp_all
 rw[h3t]at HS
 by_cases h4:cV 1 n=false
 · have HR:=Lib.hid (bz (f:=⟨1,s,n,(⟨#[]⟩:ByteArray)⟩) (.inr (.inr (.inr (.inl h4)))))
   rw[h4]at HN;clear h3 h3t h4
   go_enter Tryz.func34,Tryz.ntmps34
   go_wp2_with fail
   refine(HS.out _).mono ?_;rintro e w1 ⟨rfl,hb1⟩
   have KB1:=Lib.hid (am KB0.out hsz hb1);have HB1:=Lib.hid (au KB1.out);obtain⟨c10,c11,c12,c13⟩:=aq (f:=⟨1,s,n,(⟨#[]⟩:ByteArray)⟩) KB1.out
   go_wp2_with fail
   refine(HN.out _).mono ?_;rintro e w2 ⟨rfl,hb2⟩
   have KB2:=Lib.hid (am KB1.out hsz hb2);have HB2:=Lib.hid (au KB2.out);obtain⟨c20,c21,c22,c23⟩:=aq (f:=⟨1,s,n,(⟨#[]⟩:ByteArray)⟩) KB2.out
   go_wp2_with fail
   go_ret
   exact⟨by(rw[HR.out];try rfl),HB2.out⟩
 have h4t:cV 1 n=true:=by cases h:cV 1 n<;>simp_all
 rw[h4t]at HN
 have h5t:db 1 (⟨#[]⟩:ByteArray)=true:=rfl
 have hE:¬ ((1:Int)<1∨9<(1:Int)∨bW 1 s=false∨cV 1 n=false∨db 1 (⟨#[]⟩:ByteArray)=false):=by rw[h3t,h4t,h5t];simp
 by_cases h7:2147483647<s
 · have HR:=Lib.hid (dB (f:=⟨1,s,n,⟨#[]⟩⟩) hE (.inr h7))
   clear h3 h3t h4 h4t h5t hE
   go_enter Tryz.func34,Tryz.ntmps34
   go_wp2_with fail
   refine(HS.out _).mono ?_;rintro e w1 ⟨rfl,hb1⟩
   have KB1:=Lib.hid (am KB0.out hsz hb1);have HB1:=Lib.hid (au KB1.out);obtain⟨c10,c11,c12,c13⟩:=aq (f:=⟨1,s,n,(⟨#[]⟩:ByteArray)⟩) KB1.out
   go_wp2_with fail
   refine(HN.out _).mono ?_;rintro e w2 ⟨rfl,hb2⟩
   have KB2:=Lib.hid (am KB1.out hsz hb2);have HB2:=Lib.hid (au KB2.out);obtain⟨c20,c21,c22,c23⟩:=aq (f:=⟨1,s,n,(⟨#[]⟩:ByteArray)⟩) KB2.out
   go_wp2_with fail
   go_ret
   exact⟨by(rw[HR.out];try rfl),HB2.out⟩
 have hE2:¬ (16384<(⟨#[]⟩:ByteArray).size∨2147483647<s):=by simp[ByteArray.size];omega
 have HR:=Lib.hid ((fI (f:=⟨1,s,n,⟨#[]⟩⟩) hE hE2).trans (if_pos rfl))
 clear h3 h3t h4 h4t h5t hE hE2
 go_enter Tryz.func34,Tryz.ntmps34
 go_wp2_with fail
 refine(HS.out _).mono ?_;rintro e w1 ⟨rfl,hb1⟩
 have KB1:=Lib.hid (am KB0.out hsz hb1);have HB1:=Lib.hid (au KB1.out);obtain⟨c10,c11,c12,c13⟩:=aq (f:=⟨1,s,n,(⟨#[]⟩:ByteArray)⟩) KB1.out
 go_wp2_with fail
 refine(HN.out _).mono ?_;rintro e w2 ⟨rfl,hb2⟩
 have KB2:=Lib.hid (am KB1.out hsz hb2);have HB2:=Lib.hid (au KB2.out);obtain⟨c20,c21,c22,c23⟩:=aq (f:=⟨1,s,n,(⟨#[]⟩:ByteArray)⟩) KB2.out
 go_wp2_with fail
 refine(HH.out _).mono ?_;rintro e w3 ⟨v,rfl,hmi,hb3⟩
 have KB3:=Lib.hid (am KB2.out hsz hb3);have HB3:=Lib.hid (au KB3.out)
 generalize bK (⟨#[]⟩:ByteArray)=R at *
 obtain⟨⟨q1,q2,q3,q4⟩,q5⟩:=R
 obtain⟨ao,cp,rfl,_⟩:=hmi
 go_wp2_with fail
 go_ret
 exact⟨by(rw[HR.out];try rfl),HB3.out.alloc HB3.out.size _⟩
theorem Gg(s n:Int)(d:ByteArray)(w:World)(hs:d.size<4294967281)(hd:¬d.size=0):
 Calls Tryz.prog 34 #[.agg (bg ⟨2,s,n,d⟩)] w fun e w'=>e= .returned (.int .i64 (aA ⟨2,s,n,d⟩))∧Below w.heap.size w w':=by
 have hde:=gl hd
 have HS:=Lib.hid (fun w=>eK 2 s n d w)
 have HN:=Lib.hid (fun w=>iN 2 s n d w)
 have HB0:=Lib.hid (cH w (Obj.cells (bg ⟨2,s,n,d⟩) FT));have KB0:=Lib.hid (Below.refl (w.heap.size+1) (w.alloc (Obj.cells (bg ⟨2,s,n,d⟩) FT)));have hsz:w.heap.size+1≤(w.alloc (Obj.cells (bg ⟨2,s,n,d⟩) FT)).heap.size:=by simp
 by_cases h3:bW 2 s=false
 · have HR:=Lib.hid (bz (f:=⟨2,s,n,d⟩) (.inr (.inr (.inl h3))))
   rw[h3]at HS;clear h3
   go_enter Tryz.func34,Tryz.ntmps34
   go_wp2_with fail
   refine(HS.out _).mono ?_;rintro e w1 ⟨rfl,hb1⟩
   have KB1:=Lib.hid (am KB0.out hsz hb1);have HB1:=Lib.hid (au KB1.out);obtain⟨c10,c11,c12,c13⟩:=aq (f:=⟨2,s,n,d⟩) KB1.out
   go_wp2_with fail
   go_ret
   exact⟨by(rw[HR.out];try rfl),HB1.out⟩
 have h3t:bW 2 s=true:=by cases h:bW 2 s<;>simp_all
 rw[h3t]at HS
 by_cases h4:cV 2 n=false
 · have HR:=Lib.hid (bz (f:=⟨2,s,n,d⟩) (.inr (.inr (.inr (.inl h4)))))
   rw[h4]at HN;clear h3 h3t h4
   go_enter Tryz.func34,Tryz.ntmps34
   go_wp2_with fail
   refine(HS.out _).mono ?_;rintro e w1 ⟨rfl,hb1⟩
   have KB1:=Lib.hid (am KB0.out hsz hb1);have HB1:=Lib.hid (au KB1.out);obtain⟨c10,c11,c12,c13⟩:=aq (f:=⟨2,s,n,d⟩) KB1.out
   go_wp2_with fail
   refine(HN.out _).mono ?_;rintro e w2 ⟨rfl,hb2⟩
   have KB2:=Lib.hid (am KB1.out hsz hb2);have HB2:=Lib.hid (au KB2.out);obtain⟨c20,c21,c22,c23⟩:=aq (f:=⟨2,s,n,d⟩) KB2.out
   go_wp2_with fail
   go_ret
   exact⟨by(rw[HR.out];try rfl),HB2.out⟩
 have h4t:cV 2 n=true:=by cases h:cV 2 n<;>simp_all
 rw[h4t]at HN
 have h5t:db 2 d=true:=rfl
 have hE:¬ ((2:Int)<1∨9<(2:Int)∨bW 2 s=false∨cV 2 n=false∨db 2 d=false):=by rw[h3t,h4t,h5t];simp
 by_cases h6:16384<d.size
 · have HR:=Lib.hid (dB (f:=⟨2,s,n,d⟩) hE (.inl h6))
   clear h3 h3t h4 h4t h5t hE
   go_enter Tryz.func34,Tryz.ntmps34
   go_wp2_with fail
   refine(HS.out _).mono ?_;rintro e w1 ⟨rfl,hb1⟩
   have KB1:=Lib.hid (am KB0.out hsz hb1);have HB1:=Lib.hid (au KB1.out);obtain⟨c10,c11,c12,c13⟩:=aq (f:=⟨2,s,n,d⟩) KB1.out
   go_wp2_with fail
   refine(HN.out _).mono ?_;rintro e w2 ⟨rfl,hb2⟩
   have KB2:=Lib.hid (am KB1.out hsz hb2);have HB2:=Lib.hid (au KB2.out);obtain⟨c20,c21,c22,c23⟩:=aq (f:=⟨2,s,n,d⟩) KB2.out
   go_wp2_with fail
   go_ret
   exact⟨by(rw[HR.out];try rfl),HB2.out⟩
 by_cases h7:2147483647<s
 · have HR:=Lib.hid (dB (f:=⟨2,s,n,d⟩) hE (.inr h7))
   clear h3 h3t h4 h4t h5t hE
   go_enter Tryz.func34,Tryz.ntmps34
   go_wp2_with fail
   refine(HS.out _).mono ?_;rintro e w1 ⟨rfl,hb1⟩
   have KB1:=Lib.hid (am KB0.out hsz hb1);have HB1:=Lib.hid (au KB1.out);obtain⟨c10,c11,c12,c13⟩:=aq (f:=⟨2,s,n,d⟩) KB1.out
   go_wp2_with fail
   refine(HN.out _).mono ?_;rintro e w2 ⟨rfl,hb2⟩
   have KB2:=Lib.hid (am KB1.out hsz hb2);have HB2:=Lib.hid (au KB2.out);obtain⟨c20,c21,c22,c23⟩:=aq (f:=⟨2,s,n,d⟩) KB2.out
   go_wp2_with fail
   go_ret
   exact⟨by(rw[HR.out];try rfl),HB2.out⟩
 have hE2:¬ (16384<(d:ByteArray).size∨2147483647<s):=by omega
 have HR:=Lib.hid ((fI (f:=⟨2,s,n,d⟩) hE hE2).trans ((if_neg (by simp)).trans (if_neg (by simp))))
 clear h3 h3t h4 h4t h5t hE hE2
 go_enter Tryz.func34,Tryz.ntmps34
 go_wp2_with fail
 refine(HS.out _).mono ?_;rintro e w1 ⟨rfl,hb1⟩
 have KB1:=Lib.hid (am KB0.out hsz hb1);have HB1:=Lib.hid (au KB1.out);obtain⟨c10,c11,c12,c13⟩:=aq (f:=⟨2,s,n,d⟩) KB1.out
 go_wp2_with fail
 refine(HN.out _).mono ?_;rintro e w2 ⟨rfl,hb2⟩
 have KB2:=Lib.hid (am KB1.out hsz hb2);have HB2:=Lib.hid (au KB2.out);obtain⟨c20,c21,c22,c23⟩:=aq (f:=⟨2,s,n,d⟩) KB2.out
 go_wp2_with fail
 go_ret
 exact⟨by(rw[HR.out];try rfl),HB2.out⟩
theorem E3(s n:Int)(d:ByteArray)(w:World)(hs:d.size<4294967281)(hd:d=⟨#[]⟩):
 Calls Tryz.prog 34 #[.agg (bg ⟨2,s,n,d⟩)] w fun e w'=>e= .returned (.int .i64 (aA ⟨2,s,n,d⟩))∧Below w.heap.size w w':=by
 subst hd
 have HS:=Lib.hid (fun w=>eK 2 s n (⟨#[]⟩:ByteArray) w)
 have HN:=Lib.hid (fun w=>iN 2 s n (⟨#[]⟩:ByteArray) w)
 have HB0:=Lib.hid (cH w (Obj.cells (bg ⟨2,s,n,(⟨#[]⟩:ByteArray)⟩) FT));have KB0:=Lib.hid (Below.refl (w.heap.size+1) (w.alloc (Obj.cells (bg ⟨2,s,n,(⟨#[]⟩:ByteArray)⟩) FT)));have hsz:w.heap.size+1≤(w.alloc (Obj.cells (bg ⟨2,s,n,(⟨#[]⟩:ByteArray)⟩) FT)).heap.size:=by simp
 by_cases h3:bW 2 s=false
 · have HR:=Lib.hid (bz (f:=⟨2,s,n,(⟨#[]⟩:ByteArray)⟩) (.inr (.inr (.inl h3))))
   rw[h3]at HS;clear h3
   go_enter Tryz.func34,Tryz.ntmps34
   go_wp2_with fail
   refine(HS.out _).mono ?_;rintro e w1 ⟨rfl,hb1⟩
   have KB1:=Lib.hid (am KB0.out hsz hb1);have HB1:=Lib.hid (au KB1.out);obtain⟨c10,c11,c12,c13⟩:=aq (f:=⟨2,s,n,(⟨#[]⟩:ByteArray)⟩) KB1.out
   go_wp2_with fail
   go_ret
   exact⟨by(rw[HR.out];try rfl),HB1.out⟩
 have h3t:bW 2 s=true:=by cases h:bW 2 s<;>simp_all
 rw[h3t]at HS
 by_cases h4:cV 2 n=false
 · have HR:=Lib.hid (bz (f:=⟨2,s,n,(⟨#[]⟩:ByteArray)⟩) (.inr (.inr (.inr (.inl h4)))))
   rw[h4]at HN;clear h3 h3t h4
   go_enter Tryz.func34,Tryz.ntmps34
   go_wp2_with fail
   refine(HS.out _).mono ?_;rintro e w1 ⟨rfl,hb1⟩
   have KB1:=Lib.hid (am KB0.out hsz hb1);have HB1:=Lib.hid (au KB1.out);obtain⟨c10,c11,c12,c13⟩:=aq (f:=⟨2,s,n,(⟨#[]⟩:ByteArray)⟩) KB1.out
   go_wp2_with fail
   refine(HN.out _).mono ?_;rintro e w2 ⟨rfl,hb2⟩
   have KB2:=Lib.hid (am KB1.out hsz hb2);have HB2:=Lib.hid (au KB2.out);obtain⟨c20,c21,c22,c23⟩:=aq (f:=⟨2,s,n,(⟨#[]⟩:ByteArray)⟩) KB2.out
   go_wp2_with fail
   go_ret
   exact⟨by(rw[HR.out];try rfl),HB2.out⟩
 have h4t:cV 2 n=true:=by cases h:cV 2 n<;>simp_all
 rw[h4t]at HN
 have h5t:db 2 (⟨#[]⟩:ByteArray)=true:=rfl
 have hE:¬ ((2:Int)<1∨9<(2:Int)∨bW 2 s=false∨cV 2 n=false∨db 2 (⟨#[]⟩:ByteArray)=false):=by rw[h3t,h4t,h5t];simp
 by_cases h7:2147483647<s
 · have HR:=Lib.hid (dB (f:=⟨2,s,n,⟨#[]⟩⟩) hE (.inr h7))
   clear h3 h3t h4 h4t h5t hE
   go_enter Tryz.func34,Tryz.ntmps34
   go_wp2_with fail
   refine(HS.out _).mono ?_;rintro e w1 ⟨rfl,hb1⟩
   have KB1:=Lib.hid (am KB0.out hsz hb1);have HB1:=Lib.hid (au KB1.out);obtain⟨c10,c11,c12,c13⟩:=aq (f:=⟨2,s,n,(⟨#[]⟩:ByteArray)⟩) KB1.out
   go_wp2_with fail
   refine(HN.out _).mono ?_;rintro e w2 ⟨rfl,hb2⟩
   have KB2:=Lib.hid (am KB1.out hsz hb2);have HB2:=Lib.hid (au KB2.out);obtain⟨c20,c21,c22,c23⟩:=aq (f:=⟨2,s,n,(⟨#[]⟩:ByteArray)⟩) KB2.out
   go_wp2_with fail
   go_ret
   exact⟨by(rw[HR.out];try rfl),HB2.out⟩
 have hE2:¬ (16384<(⟨#[]⟩:ByteArray).size∨2147483647<s):=by simp[ByteArray.size];omega
 have HR:=Lib.hid ((fI (f:=⟨2,s,n,⟨#[]⟩⟩) hE hE2).trans ((if_neg (by simp)).trans (if_neg (by simp))))
 clear h3 h3t h4 h4t h5t hE hE2
 go_enter Tryz.func34,Tryz.ntmps34
 go_wp2_with fail
 refine(HS.out _).mono ?_;rintro e w1 ⟨rfl,hb1⟩
 have KB1:=Lib.hid (am KB0.out hsz hb1);have HB1:=Lib.hid (au KB1.out);obtain⟨c10,c11,c12,c13⟩:=aq (f:=⟨2,s,n,(⟨#[]⟩:ByteArray)⟩) KB1.out
 go_wp2_with fail
 refine(HN.out _).mono ?_;rintro e w2 ⟨rfl,hb2⟩
 have KB2:=Lib.hid (am KB1.out hsz hb2);have HB2:=Lib.hid (au KB2.out);obtain⟨c20,c21,c22,c23⟩:=aq (f:=⟨2,s,n,(⟨#[]⟩:ByteArray)⟩) KB2.out
 go_wp2_with fail
 go_ret
 exact⟨by(rw[HR.out];try rfl),HB2.out⟩
theorem Gh(s n:Int)(d:ByteArray)(w:World)(hs:d.size<4294967281)(hd:¬d.size=0):
 Calls Tryz.prog 34 #[.agg (bg ⟨4,s,n,d⟩)] w fun e w'=>e= .returned (.int .i64 (aA ⟨4,s,n,d⟩))∧Below w.heap.size w w':=by
 have hde:=gl hd
 have HS:=Lib.hid (fun w=>eK 4 s n d w)
 have HN:=Lib.hid (fun w=>iN 4 s n d w)
 have HU:=Lib.hid (fun w=>gF d w (by omega))
 have HB0:=Lib.hid (cH w (Obj.cells (bg ⟨4,s,n,d⟩) FT));have KB0:=Lib.hid (Below.refl (w.heap.size+1) (w.alloc (Obj.cells (bg ⟨4,s,n,d⟩) FT)));have hsz:w.heap.size+1≤(w.alloc (Obj.cells (bg ⟨4,s,n,d⟩) FT)).heap.size:=by simp
 by_cases h3:bW 4 s=false
 · have HR:=Lib.hid (bz (f:=⟨4,s,n,d⟩) (.inr (.inr (.inl h3))))
   rw[h3]at HS;clear h3
   go_enter Tryz.func34,Tryz.ntmps34
   go_wp2_with fail
   refine(HS.out _).mono ?_;rintro e w1 ⟨rfl,hb1⟩
   have KB1:=Lib.hid (am KB0.out hsz hb1);have HB1:=Lib.hid (au KB1.out);obtain⟨c10,c11,c12,c13⟩:=aq (f:=⟨4,s,n,d⟩) KB1.out
   go_wp2_with fail
   go_ret
   exact⟨by(rw[HR.out];try rfl),HB1.out⟩
 have h3t:bW 4 s=true:=by cases h:bW 4 s<;>simp_all
 rw[h3t]at HS
 by_cases h4:cV 4 n=false
 · have HR:=Lib.hid (bz (f:=⟨4,s,n,d⟩) (.inr (.inr (.inr (.inl h4)))))
   rw[h4]at HN;clear h3 h3t h4
   go_enter Tryz.func34,Tryz.ntmps34
   go_wp2_with fail
   refine(HS.out _).mono ?_;rintro e w1 ⟨rfl,hb1⟩
   have KB1:=Lib.hid (am KB0.out hsz hb1);have HB1:=Lib.hid (au KB1.out);obtain⟨c10,c11,c12,c13⟩:=aq (f:=⟨4,s,n,d⟩) KB1.out
   go_wp2_with fail
   refine(HN.out _).mono ?_;rintro e w2 ⟨rfl,hb2⟩
   have KB2:=Lib.hid (am KB1.out hsz hb2);have HB2:=Lib.hid (au KB2.out);obtain⟨c20,c21,c22,c23⟩:=aq (f:=⟨4,s,n,d⟩) KB2.out
   go_wp2_with fail
   go_ret
   exact⟨by(rw[HR.out];try rfl),HB2.out⟩
 have h4t:cV 4 n=true:=by cases h:cV 4 n<;>simp_all
 rw[h4t]at HN
 have h5t:db 4 d=true:=rfl
 have hE:¬ ((4:Int)<1∨9<(4:Int)∨bW 4 s=false∨cV 4 n=false∨db 4 d=false):=by rw[h3t,h4t,h5t];simp
 by_cases h6:16384<d.size
 · have HR:=Lib.hid (dB (f:=⟨4,s,n,d⟩) hE (.inl h6))
   clear h3 h3t h4 h4t h5t hE
   go_enter Tryz.func34,Tryz.ntmps34
   go_wp2_with fail
   refine(HS.out _).mono ?_;rintro e w1 ⟨rfl,hb1⟩
   have KB1:=Lib.hid (am KB0.out hsz hb1);have HB1:=Lib.hid (au KB1.out);obtain⟨c10,c11,c12,c13⟩:=aq (f:=⟨4,s,n,d⟩) KB1.out
   go_wp2_with fail
   refine(HN.out _).mono ?_;rintro e w2 ⟨rfl,hb2⟩
   have KB2:=Lib.hid (am KB1.out hsz hb2);have HB2:=Lib.hid (au KB2.out);obtain⟨c20,c21,c22,c23⟩:=aq (f:=⟨4,s,n,d⟩) KB2.out
   go_wp2_with fail
   go_ret
   exact⟨by(rw[HR.out];try rfl),HB2.out⟩
 by_cases h7:2147483647<s
 · have HR:=Lib.hid (dB (f:=⟨4,s,n,d⟩) hE (.inr h7))
   clear h3 h3t h4 h4t h5t hE
   go_enter Tryz.func34,Tryz.ntmps34
   go_wp2_with fail
   refine(HS.out _).mono ?_;rintro e w1 ⟨rfl,hb1⟩
   have KB1:=Lib.hid (am KB0.out hsz hb1);have HB1:=Lib.hid (au KB1.out);obtain⟨c10,c11,c12,c13⟩:=aq (f:=⟨4,s,n,d⟩) KB1.out
   go_wp2_with fail
   refine(HN.out _).mono ?_;rintro e w2 ⟨rfl,hb2⟩
   have KB2:=Lib.hid (am KB1.out hsz hb2);have HB2:=Lib.hid (au KB2.out);obtain⟨c20,c21,c22,c23⟩:=aq (f:=⟨4,s,n,d⟩) KB2.out
   go_wp2_with fail
   go_ret
   exact⟨by(rw[HR.out];try rfl),HB2.out⟩
 have hE2:¬ (16384<(d:ByteArray).size∨2147483647<s):=by omega
 have HR:=Lib.hid ((fI (f:=⟨4,s,n,d⟩) hE hE2).trans ((if_neg (by simp)).trans (if_pos rfl)))
 clear h3 h3t h4 h4t h5t hE hE2
 go_enter Tryz.func34,Tryz.ntmps34
 go_wp2_with fail
 refine(HS.out _).mono ?_;rintro e w1 ⟨rfl,hb1⟩
 have KB1:=Lib.hid (am KB0.out hsz hb1);have HB1:=Lib.hid (au KB1.out);obtain⟨c10,c11,c12,c13⟩:=aq (f:=⟨4,s,n,d⟩) KB1.out
 go_wp2_with fail
 refine(HN.out _).mono ?_;rintro e w2 ⟨rfl,hb2⟩
 have KB2:=Lib.hid (am KB1.out hsz hb2);have HB2:=Lib.hid (au KB2.out);obtain⟨c20,c21,c22,c23⟩:=aq (f:=⟨4,s,n,d⟩) KB2.out
 go_wp2_with fail
 refine(HU.out _).mono ?_;rintro e w3 ⟨rfl,hb3⟩
 have KB3:=Lib.hid (am KB2.out hsz hb3);have HB3:=Lib.hid (au KB3.out);obtain⟨c30,c31,c32,c33⟩:=aq (f:=⟨4,s,n,d⟩) KB3.out
 go_wp2_with fail
 go_ret
 exact⟨by(rw[HR.out];try rfl),HB3.out.alloc HB3.out.size _⟩
theorem E4(s n:Int)(d:ByteArray)(w:World)(hs:d.size<4294967281)(hd:d=⟨#[]⟩):
 Calls Tryz.prog 34 #[.agg (bg ⟨4,s,n,d⟩)] w fun e w'=>e= .returned (.int .i64 (aA ⟨4,s,n,d⟩))∧Below w.heap.size w w':=by
 subst hd
 have HS:=Lib.hid (fun w=>eK 4 s n (⟨#[]⟩:ByteArray) w)
 have HN:=Lib.hid (fun w=>iN 4 s n (⟨#[]⟩:ByteArray) w)
 have HU:=Lib.hid (fun w=>gF (⟨#[]⟩:ByteArray) w (by omega))
 have HB0:=Lib.hid (cH w (Obj.cells (bg ⟨4,s,n,(⟨#[]⟩:ByteArray)⟩) FT));have KB0:=Lib.hid (Below.refl (w.heap.size+1) (w.alloc (Obj.cells (bg ⟨4,s,n,(⟨#[]⟩:ByteArray)⟩) FT)));have hsz:w.heap.size+1≤(w.alloc (Obj.cells (bg ⟨4,s,n,(⟨#[]⟩:ByteArray)⟩) FT)).heap.size:=by simp
 by_cases h3:bW 4 s=false
 · have HR:=Lib.hid (bz (f:=⟨4,s,n,(⟨#[]⟩:ByteArray)⟩) (.inr (.inr (.inl h3))))
   rw[h3]at HS;clear h3
   go_enter Tryz.func34,Tryz.ntmps34
   go_wp2_with fail
   refine(HS.out _).mono ?_;rintro e w1 ⟨rfl,hb1⟩
   have KB1:=Lib.hid (am KB0.out hsz hb1);have HB1:=Lib.hid (au KB1.out);obtain⟨c10,c11,c12,c13⟩:=aq (f:=⟨4,s,n,(⟨#[]⟩:ByteArray)⟩) KB1.out
   go_wp2_with fail
   go_ret
   exact⟨by(rw[HR.out];try rfl),HB1.out⟩
 have h3t:bW 4 s=true:=by cases h:bW 4 s<;>simp_all
 rw[h3t]at HS
 by_cases h4:cV 4 n=false
 · have HR:=Lib.hid (bz (f:=⟨4,s,n,(⟨#[]⟩:ByteArray)⟩) (.inr (.inr (.inr (.inl h4)))))
   rw[h4]at HN;clear h3 h3t h4
   go_enter Tryz.func34,Tryz.ntmps34
   go_wp2_with fail
   refine(HS.out _).mono ?_;rintro e w1 ⟨rfl,hb1⟩
   have KB1:=Lib.hid (am KB0.out hsz hb1);have HB1:=Lib.hid (au KB1.out);obtain⟨c10,c11,c12,c13⟩:=aq (f:=⟨4,s,n,(⟨#[]⟩:ByteArray)⟩) KB1.out
   go_wp2_with fail
   refine(HN.out _).mono ?_;rintro e w2 ⟨rfl,hb2⟩
   have KB2:=Lib.hid (am KB1.out hsz hb2);have HB2:=Lib.hid (au KB2.out);obtain⟨c20,c21,c22,c23⟩:=aq (f:=⟨4,s,n,(⟨#[]⟩:ByteArray)⟩) KB2.out
   go_wp2_with fail
   go_ret
   exact⟨by(rw[HR.out];try rfl),HB2.out⟩
 have h4t:cV 4 n=true:=by cases h:cV 4 n<;>simp_all
 rw[h4t]at HN
 have h5t:db 4 (⟨#[]⟩:ByteArray)=true:=rfl
 have hE:¬ ((4:Int)<1∨9<(4:Int)∨bW 4 s=false∨cV 4 n=false∨db 4 (⟨#[]⟩:ByteArray)=false):=by rw[h3t,h4t,h5t];simp
 by_cases h7:2147483647<s
 · have HR:=Lib.hid (dB (f:=⟨4,s,n,⟨#[]⟩⟩) hE (.inr h7))
   clear h3 h3t h4 h4t h5t hE
   go_enter Tryz.func34,Tryz.ntmps34
   go_wp2_with fail
   refine(HS.out _).mono ?_;rintro e w1 ⟨rfl,hb1⟩
   have KB1:=Lib.hid (am KB0.out hsz hb1);have HB1:=Lib.hid (au KB1.out);obtain⟨c10,c11,c12,c13⟩:=aq (f:=⟨4,s,n,(⟨#[]⟩:ByteArray)⟩) KB1.out
   go_wp2_with fail
   refine(HN.out _).mono ?_;rintro e w2 ⟨rfl,hb2⟩
   have KB2:=Lib.hid (am KB1.out hsz hb2);have HB2:=Lib.hid (au KB2.out);obtain⟨c20,c21,c22,c23⟩:=aq (f:=⟨4,s,n,(⟨#[]⟩:ByteArray)⟩) KB2.out
   go_wp2_with fail
   go_ret
   exact⟨by(rw[HR.out];try rfl),HB2.out⟩
 have hE2:¬ (16384<(⟨#[]⟩:ByteArray).size∨2147483647<s):=by simp[ByteArray.size];omega
 have HR:=Lib.hid ((fI (f:=⟨4,s,n,⟨#[]⟩⟩) hE hE2).trans ((if_neg (by simp)).trans (if_pos rfl)))
 clear h3 h3t h4 h4t h5t hE hE2
 go_enter Tryz.func34,Tryz.ntmps34
 go_wp2_with fail
 refine(HS.out _).mono ?_;rintro e w1 ⟨rfl,hb1⟩
 have KB1:=Lib.hid (am KB0.out hsz hb1);have HB1:=Lib.hid (au KB1.out);obtain⟨c10,c11,c12,c13⟩:=aq (f:=⟨4,s,n,(⟨#[]⟩:ByteArray)⟩) KB1.out
 go_wp2_with fail
 refine(HN.out _).mono ?_;rintro e w2 ⟨rfl,hb2⟩
 have KB2:=Lib.hid (am KB1.out hsz hb2);have HB2:=Lib.hid (au KB2.out);obtain⟨c20,c21,c22,c23⟩:=aq (f:=⟨4,s,n,(⟨#[]⟩:ByteArray)⟩) KB2.out
 go_wp2_with fail
 refine(HU.out _).mono ?_;rintro e w3 ⟨rfl,hb3⟩
 have KB3:=Lib.hid (am KB2.out hsz hb3);have HB3:=Lib.hid (au KB3.out);obtain⟨c30,c31,c32,c33⟩:=aq (f:=⟨4,s,n,(⟨#[]⟩:ByteArray)⟩) KB3.out
 go_wp2_with fail
 go_ret
 exact⟨by(rw[HR.out];try rfl),HB3.out.alloc HB3.out.size _⟩
theorem Gi(k s n:Int)(d:ByteArray)(w:World)(hs:d.size<4294967281)(k1:¬k=1)(k2:¬k=2)(k4:¬k=4):
 Calls Tryz.prog 34 #[.agg (bg ⟨k,s,n,d⟩)] w fun e w'=>e= .returned (.int .i64 (aA ⟨k,s,n,d⟩))∧Below w.heap.size w w':=by
 have q1:(k==1)=false:=by simp[k1]
 have q2:(k==2)=false:=by simp[k2]
 have q4:(k==4)=false:=by simp[k4]
 have HS:=Lib.hid (fun w=>eK k s n d w)
 have HN:=Lib.hid (fun w=>iN k s n d w)
 have HB0:=Lib.hid (cH w (Obj.cells (bg ⟨k,s,n,d⟩) FT));have KB0:=Lib.hid (Below.refl (w.heap.size+1) (w.alloc (Obj.cells (bg ⟨k,s,n,d⟩) FT)));have hsz:w.heap.size+1≤(w.alloc (Obj.cells (bg ⟨k,s,n,d⟩) FT)).heap.size:=by simp
 by_cases h1:k<1
 · have HR:=Lib.hid (bz (f:=⟨k,s,n,d⟩) (.inl h1))
   go_enter Tryz.func34,Tryz.ntmps34
   go_wp2_with fail
   go_ret
   exact⟨by(rw[HR.out];try rfl),HB0.out⟩
 by_cases h2:9<k
 · have HR:=Lib.hid (bz (f:=⟨k,s,n,d⟩) (.inr (.inl h2)))
   go_enter Tryz.func34,Tryz.ntmps34
   go_wp2_with fail
   go_ret
   exact⟨by(rw[HR.out];try rfl),HB0.out⟩
 by_cases h3:bW k s=false
 · have HR:=Lib.hid (bz (f:=⟨k,s,n,d⟩) (.inr (.inr (.inl h3))))
   rw[h3]at HS;clear h3
   go_enter Tryz.func34,Tryz.ntmps34
   go_wp2_with fail
   refine(HS.out _).mono ?_;rintro e w1 ⟨rfl,hb1⟩
   have KB1:=Lib.hid (am KB0.out hsz hb1);have HB1:=Lib.hid (au KB1.out);obtain⟨c10,c11,c12,c13⟩:=aq (f:=⟨k,s,n,d⟩) KB1.out
   go_wp2_with fail
   go_ret
   exact⟨by(rw[HR.out];try rfl),HB1.out⟩
 have h3t:bW k s=true:=by cases h:bW k s<;>simp_all
 rw[h3t]at HS
 by_cases h4:cV k n=false
 · have HR:=Lib.hid (bz (f:=⟨k,s,n,d⟩) (.inr (.inr (.inr (.inl h4)))))
   rw[h4]at HN;clear h3 h3t h4
   go_enter Tryz.func34,Tryz.ntmps34
   go_wp2_with fail
   refine(HS.out _).mono ?_;rintro e w1 ⟨rfl,hb1⟩
   have KB1:=Lib.hid (am KB0.out hsz hb1);have HB1:=Lib.hid (au KB1.out);obtain⟨c10,c11,c12,c13⟩:=aq (f:=⟨k,s,n,d⟩) KB1.out
   go_wp2_with fail
   refine(HN.out _).mono ?_;rintro e w2 ⟨rfl,hb2⟩
   have KB2:=Lib.hid (am KB1.out hsz hb2);have HB2:=Lib.hid (au KB2.out);obtain⟨c20,c21,c22,c23⟩:=aq (f:=⟨k,s,n,d⟩) KB2.out
   go_wp2_with fail
   go_ret
   exact⟨by(rw[HR.out];try rfl),HB2.out⟩
 have h4t:cV k n=true:=by cases h:cV k n<;>simp_all
 rw[h4t]at HN
 by_cases h5:db k d=false
 · have HR:=Lib.hid (bz (f:=⟨k,s,n,d⟩) (.inr (.inr (.inr (.inr h5)))))
   obtain⟨_,_,_,hd⟩:=BD h5
   have hde:=gl hd;clear h3 h3t h4 h4t h5
   go_enter Tryz.func34,Tryz.ntmps34
   go_wp2_with fail
   refine(HS.out _).mono ?_;rintro e w1 ⟨rfl,hb1⟩
   have KB1:=Lib.hid (am KB0.out hsz hb1);have HB1:=Lib.hid (au KB1.out);obtain⟨c10,c11,c12,c13⟩:=aq (f:=⟨k,s,n,d⟩) KB1.out
   go_wp2_with fail
   refine(HN.out _).mono ?_;rintro e w2 ⟨rfl,hb2⟩
   have KB2:=Lib.hid (am KB1.out hsz hb2);have HB2:=Lib.hid (au KB2.out);obtain⟨c20,c21,c22,c23⟩:=aq (f:=⟨k,s,n,d⟩) KB2.out
   go_wp2_with fail
   go_ret
   exact⟨by(rw[HR.out];try rfl),HB2.out⟩
 have h5t:db k d=true:=by cases h:db k d<;>simp_all
 have hE:¬ ((k:Int)<1∨9<(k:Int)∨bW k s=false∨cV k n=false∨db k d=false):=by rw[h3t,h4t,h5t];simp;omega
 have hd:d=⟨#[]⟩:=by rcases DE h5t with h|h;(omega);exact h.2
 subst hd
 by_cases h7:2147483647<s
 · have HR:=Lib.hid (dB (f:=⟨k,s,n,⟨#[]⟩⟩) hE (.inr h7))
   clear h3 h3t h4 h4t h5 h5t hE
   go_enter Tryz.func34,Tryz.ntmps34
   go_wp2_with fail
   refine(HS.out _).mono ?_;rintro e w1 ⟨rfl,hb1⟩
   have KB1:=Lib.hid (am KB0.out hsz hb1);have HB1:=Lib.hid (au KB1.out);obtain⟨c10,c11,c12,c13⟩:=aq (f:=⟨k,s,n,(⟨#[]⟩:ByteArray)⟩) KB1.out
   go_wp2_with fail
   refine(HN.out _).mono ?_;rintro e w2 ⟨rfl,hb2⟩
   have KB2:=Lib.hid (am KB1.out hsz hb2);have HB2:=Lib.hid (au KB2.out);obtain⟨c20,c21,c22,c23⟩:=aq (f:=⟨k,s,n,(⟨#[]⟩:ByteArray)⟩) KB2.out
   go_wp2_with fail
   go_ret
   exact⟨by(rw[HR.out];try rfl),HB2.out⟩
 have hE2:¬ (16384<(⟨#[]⟩:ByteArray).size∨2147483647<s):=by simp[ByteArray.size];omega
 have HR:=Lib.hid ((fI (f:=⟨k,s,n,⟨#[]⟩⟩) hE hE2).trans ((if_neg k1).trans (if_neg k4)))
 clear h3 h3t h4 h4t h5 h5t hE hE2
 go_enter Tryz.func34,Tryz.ntmps34
 go_wp2_with fail
 refine(HS.out _).mono ?_;rintro e w1 ⟨rfl,hb1⟩
 have KB1:=Lib.hid (am KB0.out hsz hb1);have HB1:=Lib.hid (au KB1.out);obtain⟨c10,c11,c12,c13⟩:=aq (f:=⟨k,s,n,(⟨#[]⟩:ByteArray)⟩) KB1.out
 go_wp2_with fail
 refine(HN.out _).mono ?_;rintro e w2 ⟨rfl,hb2⟩
 have KB2:=Lib.hid (am KB1.out hsz hb2);have HB2:=Lib.hid (au KB2.out);obtain⟨c20,c21,c22,c23⟩:=aq (f:=⟨k,s,n,(⟨#[]⟩:ByteArray)⟩) KB2.out
 go_wp2_with fail
 go_ret
 exact⟨by(rw[HR.out];try rfl),HB2.out⟩
theorem oT(f:aS)(w:World)(hs:f.data.size<4294967281):
 Calls Tryz.prog 34 #[.agg (bg f)] w fun e w'=>e= .returned (.int .i64 (aA f))∧Below w.heap.size w w':=by
 obtain⟨k,s,n,d⟩:=f
 by_cases k1:k=1
 · subst k1;by_cases hd:d.size=0;(exact E2 s n d w hs (ByteArray.ext (Array.eq_empty_of_size_eq_zero hd)));exact Gf s n d w hs hd
 by_cases k2:k=2
 · subst k2;by_cases hd:d.size=0;(exact E3 s n d w hs (ByteArray.ext (Array.eq_empty_of_size_eq_zero hd)));exact Gg s n d w hs hd
 by_cases k4:k=4
 · subst k4;by_cases hd:d.size=0;(exact E4 s n d w hs (ByteArray.ext (Array.eq_empty_of_size_eq_zero hd)));exact Gh s n d w hs hd
 exact Gi k s n d w hs k1 k2 k4
end
end Go.Proofs.YthiocbcokfondaaGreatDoor
