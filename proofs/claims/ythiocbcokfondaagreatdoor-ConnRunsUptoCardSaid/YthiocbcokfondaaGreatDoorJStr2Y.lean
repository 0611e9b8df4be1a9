import Derived.Test.YthiocbcokfondaaGreatDoorJBunT
import Derived.Test.YthiocbcokfondaaGreatDoorJBunD
import Derived.Test.YthiocbcokfondaaGreatDoorJFlow
import Derived.Test.YthiocbcokfondaaGreatDoorJBunH
set_option maxRecDepth 100000
set_option maxHeartbeats 32000000
namespace Go.Proofs.YthiocbcokfondaaGreatDoor.Y
open Go.RowKit
theorem su(s:ByteArray):(s.toList==(⟨#[]⟩:ByteArray).toList)=decide (s.size=0):=by
 rw[ByteArray.toList_eq,ByteArray.toList_eq,Bool.eq_iff_iff,beq_iff_eq,decide_eq_true_eq]
 obtain⟨⟨l⟩⟩:=s
 show l=[] ↔ l.length=0
 cases l<;>simp
theorem wS(id sd sh st gt:Int)(se ge dn:Bool)(c:Int)(tx:ByteArray)(wa wb wc ra rb rc:Int)(w:World):Calls Tryz.prog 133 #[.agg #[.int .i64 id,.int .i64 sd,.int .i64 sh,.int .i64 st,.int .i64 gt,.bool se,.bool ge,.bool dn,.int .i64 c,.string tx,.int .i64 wa,.int .i64 wb,.int .i64 wc,.int .i64 ra,.int .i64 rb,.int .i64 rc]] w fun e w'=>e= .returned (.agg #[.int .i64 id,.int .i64 sd,.int .i64 sh,.int .i64 st,.int .i64 gt,.bool se,.bool ge,.bool dn,.int .i64 c,.string tx,.int .i64 wa,.int .i64 wb,.int .i64 wc,.int .i64 ra,.int .i64 rb,.int .i64 rc,.int .i64 (c1 sh),.int .i64 (kG (c2 sh)),.int .i64 (c3 sh),.int .i64 (kG (c4 sh))])∧Below w.heap.size w w':=by
 refine ai Tryz.func133 rfl Tryz.ntmps133 J J ?_
 repeat' (first|refine aD ?_|refine ap ?_|refine ay ?_|refine bq ?_|refine bo ?_|refine aK ?_|((refine' bJ rfl ?_ J J ?_);rotate_left;first|exact ax ae J J J J|exact aM ae J J J J J J|exact ab ae 0 J J J J J|exact ab ae 1 J J J J J|exact ab ae 2 J J J J J|exact aj ae J J ⟨J,trivial⟩ J J J)|refine aH rfl (ag J J J J ⟨J,trivial⟩ rfl (by kernel_rfl)) (fun w hm=>ki (counts _ w)) J J ?_|(refine bQ J J J J J J ?_;intro g)|(refine br ae J J J J J J ?_;intro g)|refine av ae 0 J J J J J J J J J J J J ?_|refine av ae 1 J J J J J J J J J J J J ?_|refine bI rfl (fun h=> ?_) (fun h=> ?_))
 all_goals
  (refine aI ae (fun _=>1) J J ⟨J,trivial⟩ rfl fun w hm=>⟨?_,hm.below⟩)
  simp only[decide_eq_true_eq,decide_eq_false_iff_not]at *
  simp[kG, *]
theorem eL(id sd sh st gt:Int)(se ge dn:Bool)(c:Int)(tx:ByteArray)(wa wb wc ra rb rc:Int)(e1 e2 e3 e4:Int)(w:World):Calls Tryz.prog 165 #[.agg #[.int .i64 id,.int .i64 sd,.int .i64 sh,.int .i64 st,.int .i64 gt,.bool se,.bool ge,.bool dn,.int .i64 c,.string tx,.int .i64 wa,.int .i64 wb,.int .i64 wc,.int .i64 ra,.int .i64 rb,.int .i64 rc,.int .i64 e1,.int .i64 e2,.int .i64 e3,.int .i64 e4]] w fun e w'=>e= .returned (.bool (sd==1))∧Below w.heap.size w w':=by
 refine ai Tryz.func165 rfl Tryz.ntmps165 J J ?_
 repeat' (first|refine aD ?_|refine ap ?_|refine ay ?_|refine bq ?_|refine aK ?_|((refine' bJ rfl ?_ J J ?_);rotate_left;first|exact ax ae J J J J|exact aM ae J J J J J J|exact ab ae 0 J J J J J)|(refine bQ J J J J J J ?_;intro g))
 all_goals
  refine aI ae (fun _=>0) J J trivial rfl fun w hm=>⟨?_,hm.below⟩
  rfl
theorem na(id sd sh st gt:Int)(se ge dn:Bool)(c:Int)(tx:ByteArray)(wa wb wc ra rb rc:Int)(e1 e2 e3 e4:Int)(w:World):Calls Tryz.prog 135 #[.agg #[.int .i64 id,.int .i64 sd,.int .i64 sh,.int .i64 st,.int .i64 gt,.bool se,.bool ge,.bool dn,.int .i64 c,.string tx,.int .i64 wa,.int .i64 wb,.int .i64 wc,.int .i64 ra,.int .i64 rb,.int .i64 rc,.int .i64 e1,.int .i64 e2,.int .i64 e3,.int .i64 e4]] w fun e w'=>e= .returned (.int .i64 (gU (⟨id,sd,sh,st,gt,se,ge,dn,c,tx,⟨wa,wb,wc⟩,⟨ra,rb,rc⟩⟩:bZ)))∧Below w.heap.size w w':=by
 refine ai Tryz.func135 rfl Tryz.ntmps135 J J ?_
 repeat' (first|refine aD ?_|refine ap ?_|refine ay ?_|refine bq ?_|refine bo ?_|refine aC ?_|refine aK ?_|((refine' bJ rfl ?_ J J ?_);rotate_left;first|exact ax ae J J J J|exact ab ae 0 J J J J J)|refine aH rfl (ag J J J J ⟨J,trivial⟩ rfl (by kernel_rfl)) (fun w hm=>eL _ _ _ _ _ _ _ _ _ _ _ _ _ _ _ _ _ _ _ _ w) J J ?_|(refine bQ J J J J J J ?_;intro g)|refine bI rfl (fun h=> ?_) (fun h=> ?_))
 all_goals
  refine aI ae (fun _=>0) J J trivial rfl fun w hm=>⟨?_,hm.below⟩
  simp_all [gU]
theorem lS(id sd sh st gt:Int)(se ge dn:Bool)(c:Int)(tx:ByteArray)(wa wb wc ra rb rc:Int)(e1 e2 e3 e4:Int)(w:World):Calls Tryz.prog 136 #[.agg #[.int .i64 id,.int .i64 sd,.int .i64 sh,.int .i64 st,.int .i64 gt,.bool se,.bool ge,.bool dn,.int .i64 c,.string tx,.int .i64 wa,.int .i64 wb,.int .i64 wc,.int .i64 ra,.int .i64 rb,.int .i64 rc,.int .i64 e1,.int .i64 e2,.int .i64 e3,.int .i64 e4]] w fun e w'=>e= .returned (.int .i64 (kl (⟨id,sd,sh,st,gt,se,ge,dn,c,tx,⟨wa,wb,wc⟩,⟨ra,rb,rc⟩⟩:bZ)))∧Below w.heap.size w w':=by
 refine ai Tryz.func136 rfl Tryz.ntmps136 J J ?_
 repeat' (first|refine aD ?_|refine ap ?_|refine ay ?_|refine bq ?_|refine bo ?_|refine aC ?_|refine aK ?_|((refine' bJ rfl ?_ J J ?_);rotate_left;first|exact ax ae J J J J|exact ab ae 0 J J J J J)|refine aH rfl (ag J J J J ⟨J,trivial⟩ rfl (by kernel_rfl)) (fun w hm=>eL _ _ _ _ _ _ _ _ _ _ _ _ _ _ _ _ _ _ _ _ w) J J ?_|(refine bQ J J J J J J ?_;intro g)|refine bI rfl (fun h=> ?_) (fun h=> ?_))
 all_goals
  refine aI ae (fun _=>0) J J trivial rfl fun w hm=>⟨?_,hm.below⟩
  simp_all [kl]
theorem sy(id sd sh st gt:Int)(se ge dn:Bool)(c:Int)(tx:ByteArray)(wa wb wc ra rb rc:Int)(e1 e2 e3 e4:Int)(w:World):Calls Tryz.prog 138 #[.agg #[.int .i64 id,.int .i64 sd,.int .i64 sh,.int .i64 st,.int .i64 gt,.bool se,.bool ge,.bool dn,.int .i64 c,.string tx,.int .i64 wa,.int .i64 wb,.int .i64 wc,.int .i64 ra,.int .i64 rb,.int .i64 rc,.int .i64 e1,.int .i64 e2,.int .i64 e3,.int .i64 e4]] w fun e w'=>e= .returned (.bool (lI (⟨id,sd,sh,st,gt,se,ge,dn,c,tx,⟨wa,wb,wc⟩,⟨ra,rb,rc⟩⟩:bZ)))∧Below w.heap.size w w':=by
 refine ai Tryz.func138 rfl Tryz.ntmps138 J J ?_
 repeat' (first|refine aD ?_|refine ap ?_|refine ay ?_|refine bq ?_|refine bo ?_|refine aC ?_|refine aK ?_|((refine' bJ rfl ?_ J J ?_);rotate_left;first|exact ax ae J J J J|exact ab ae 0 J J J J J)|refine aH rfl (ag J J J J ⟨J,trivial⟩ rfl (by kernel_rfl)) (fun w hm=>eL _ _ _ _ _ _ _ _ _ _ _ _ _ _ _ _ _ _ _ _ w) J J ?_|(refine bQ J J J J J J ?_;intro g)|refine bI rfl (fun h=> ?_) (fun h=> ?_))
 all_goals
  refine aI ae (fun _=>0) J J trivial rfl fun w hm=>⟨?_,hm.below⟩
  simp_all [lI]
theorem tK(id sd sh st gt:Int)(se ge dn:Bool)(c:Int)(tx:ByteArray)(wa wb wc ra rb rc:Int)(e1 e2 e3 e4:Int)(w:World):Calls Tryz.prog 137 #[.agg #[.int .i64 id,.int .i64 sd,.int .i64 sh,.int .i64 st,.int .i64 gt,.bool se,.bool ge,.bool dn,.int .i64 c,.string tx,.int .i64 wa,.int .i64 wb,.int .i64 wc,.int .i64 ra,.int .i64 rb,.int .i64 rc,.int .i64 e1,.int .i64 e2,.int .i64 e3,.int .i64 e4]] w fun e w'=>e= .returned (.bool (rB (⟨id,sd,sh,st,gt,se,ge,dn,c,tx,⟨wa,wb,wc⟩,⟨ra,rb,rc⟩⟩:bZ)))∧Below w.heap.size w w':=by
 refine ai Tryz.func137 rfl Tryz.ntmps137 J J ?_
 repeat' (first|refine aD ?_|refine ap ?_|refine ay ?_|refine bq ?_|refine bo ?_|refine aC ?_|refine aK ?_|((refine' bJ rfl ?_ J J ?_);rotate_left;first|exact ax ae J J J J|exact ab ae 0 J J J J J)|refine aH rfl (ag J J J J ⟨J,trivial⟩ rfl (by kernel_rfl)) (fun w hm=>eL _ _ _ _ _ _ _ _ _ _ _ _ _ _ _ _ _ _ _ _ w) J J ?_|(refine bQ J J J J J J ?_;intro g)|refine bI rfl (fun h=> ?_) (fun h=> ?_))
 all_goals
  refine aI ae (fun _=>0) J J trivial rfl fun w hm=>⟨?_,hm.below⟩
  simp_all [rB]
theorem uZ(id sd sh st gt:Int)(se ge dn:Bool)(c:Int)(tx:ByteArray)(wa wb wc ra rb rc:Int)(e1 e2 e3 e4:Int)(b:Bool)(w:World):Calls Tryz.prog 164 #[.agg #[.int .i64 id,.int .i64 sd,.int .i64 sh,.int .i64 st,.int .i64 gt,.bool se,.bool ge,.bool dn,.int .i64 c,.string tx,.int .i64 wa,.int .i64 wb,.int .i64 wc,.int .i64 ra,.int .i64 rb,.int .i64 rc,.int .i64 e1,.int .i64 e2,.int .i64 e3,.int .i64 e4],.bool b] w fun e w'=>e= .returned (.int .i64 (if b=true then e2 else e4))∧Below w.heap.size w w':=by
 refine ai Tryz.func164 rfl Tryz.ntmps164 J J ?_
 repeat' (first|refine aD ?_|refine ap ?_|refine ay ?_|refine bq ?_|refine bo ?_|refine aC ?_|refine aK ?_|((refine' bJ rfl ?_ J J ?_);rotate_left;first|exact ax ae J J J J|exact ab ae 0 J J J J J)|(refine bQ J J J J J J ?_;intro g)|refine bI rfl (fun h=> ?_) (fun h=> ?_))
 all_goals
  refine aI ae (fun _=>0) J J trivial rfl fun w hm=>⟨?_,hm.below⟩
  simp_all
theorem wT(n m:Int)(w:World):Calls Tryz.prog 134 #[.int .i64 n,.int .i64 m] w fun e w'=>e= .returned (.bool (decide (0≤n∧n≤m)))∧Below w.heap.size w w':=by
 refine ai Tryz.func134 rfl Tryz.ntmps134 J J ?_
 repeat' (first|refine aD ?_|refine ap ?_|refine ay ?_|refine bq ?_|refine aK ?_|((refine' bJ rfl ?_ J J ?_);rotate_left;first|exact ax ae J J J J|exact aM ae J J J J J J|exact dj J J J J J))
 all_goals
  refine aI ae (fun _=>0) J J trivial rfl fun w hm=>⟨?_,hm.below⟩
  congr 2
  rw[Bool.eq_iff_iff]
  simp
theorem iO(d:ByteArray)(w:World):Calls Tryz.prog 25 #[.string d] w fun e w'=>e= .returned (.int .i64 (aG d))∧Below w.heap.size w w':=by
 refine ai Tryz.func25 rfl Tryz.ntmps25 J J ?_
 repeat' (first|refine aD ?_|refine ap ?_|refine ay ?_|refine bq ?_|refine aK ?_|((refine' bJ rfl ?_ J J ?_);rotate_left;first|exact ax ae J J J J|exact dv ae J J J J J J J|exact gu J J J J J))
 all_goals
  refine aI ae (fun _=>0) J J trivial rfl fun w hm=>⟨?_,hm.below⟩
  congr 2
  unfold aG
  split<;>split<;>omega
theorem ly(id sd sh st gt:Int)(se ge dn:Bool)(c:Int)(tx:ByteArray)(wa wb wc ra rb rc:Int)(w:World)(htx:tx.size≤4611686018427387900):Calls Tryz.prog 71 #[.agg #[.int .i64 id,.int .i64 sd,.int .i64 sh,.int .i64 st,.int .i64 gt,.bool se,.bool ge,.bool dn,.int .i64 c,.string tx,.int .i64 wa,.int .i64 wb,.int .i64 wc,.int .i64 ra,.int .i64 rb,.int .i64 rc]] w fun e w'=>e= .returned (.bool (cY (⟨id,sd,sh,st,gt,se,ge,dn,c,tx,⟨wa,wb,wc⟩,⟨ra,rb,rc⟩⟩:bZ)))∧Below w.heap.size w w':=by
 refine ai Tryz.func71 rfl Tryz.ntmps71 J J ?_
 repeat' (first|refine aD ?_|refine ap ?_|refine ay ?_|refine bq ?_|refine bo ?_|refine aC ?_|refine aF ak rfl (by kernel_rfl) ?_|refine aK ?_|refine bD ?_|((first|refine' bJ rfl ?_ J J ?_|refine' cB rfl ?_ J J J ?_);rotate_left;first|exact ax ae J J J J|exact aM ae J J J J J J|exact cE J J J J J|exact dj J J J J J|exact ab ae 0 J J J J J|exact ab ae 1 J J J J J|exact gR ae ie J J J J J J (by kernel_rfl)|exact aj ae J J trivial J J J)|refine aH rfl (ag J J J J ⟨J,trivial⟩ rfl (by kernel_rfl)) (fun w hm=>wS _ _ _ _ _ _ _ _ _ _ _ _ _ _ _ _ w) J J ?_|refine aU rfl (ag J J J J ⟨J,trivial⟩ rfl (by kernel_rfl)) rfl (fun w hm=>na _ _ _ _ _ _ _ _ _ _ _ _ _ _ _ _ _ _ _ _ w) J J ?_|refine aU rfl (ag J J J J ⟨J,trivial⟩ rfl (by kernel_rfl)) rfl (fun w hm=>lS _ _ _ _ _ _ _ _ _ _ _ _ _ _ _ _ _ _ _ _ w) J J ?_|refine aU rfl (ag J J J J ⟨J,trivial⟩ rfl (by kernel_rfl)) rfl (fun w hm=>sy _ _ _ _ _ _ _ _ _ _ _ _ _ _ _ _ _ _ _ _ w) J J ?_|refine aU rfl (ag J J J J ⟨J,trivial⟩ rfl (by kernel_rfl)) rfl (fun w hm=>tK _ _ _ _ _ _ _ _ _ _ _ _ _ _ _ _ _ _ _ _ w) J J ?_|refine aU rfl (ag J J J J ⟨J,J,trivial⟩ rfl (by kernel_rfl)) rfl (fun w hm=>wT _ _ w) J J ?_|refine aU rfl (ag J J J J ⟨J,trivial⟩ rfl (by kernel_rfl)) rfl (fun w hm=>gz ⟨_,_,_⟩ w) J J ?_|refine aH rfl (ag J J J J ⟨J,trivial⟩ rfl (by kernel_rfl)) (fun w hm=>gp _ _ w htx) J J ?_|(refine bQ J J J J J J ?_;intro g)|(refine br ae J J J J J J ?_;intro g)|refine av ae 0 J J J J J J J J J J J J ?_|refine bI rfl (fun h=> ?_) (fun h=> ?_))
 all_goals
  refine aI ae (fun _=>0) J J trivial rfl fun w hm=>⟨?_,hm.below⟩
  refine congrArg (fun b=>Ending.returned (Value.bool b)) ?_
  clear htx hm
  unfold cY qj qk xL pr
  try rw[su]
  grind
def tL(s:bZ)(e1 e3:Int)(d:ByteArray):Int:=if(bj d).err≠0 then 1 else if(bj d).code≠0 then 0 else if(decide (gU s<e1)||decide (kl s<e3)||((s.shape==1||s.shape==3) && !lI s))=true then 11 else 0
def tM(f:aS):Int:=if f.kind=5 then f.num else(bj f.data).code
def tN(f:aS):ByteArray:=if f.kind=5 then⟨#[]⟩else(bj f.data).text
theorem qs{a b:Int}(h:a=b):Ending.returned (.int .i64 a)=Ending.returned (.int .i64 b):=by rw[h]
theorem sA{a b:Bool}(h:a=b):Ending.returned (.bool a)=Ending.returned (.bool b):=by rw[h]
abbrev iP(s:bZ):Array Value:= #[.int .i64 s.id,.int .i64 s.side,.int .i64 s.shape,.int .i64 s.sent,.int .i64 s.got,.bool s.se,.bool s.ge,.bool s.done,.int .i64 s.code,.string s.text,.int .i64 s.snd.size,.int .i64 s.snd.left,.int .i64 s.snd.held,.int .i64 s.rcv.size,.int .i64 s.rcv.left,.int .i64 s.rcv.held]
theorem ot(id sd sh st gt:Int)(se ge dn:Bool)(c:Int)(tx:ByteArray)(wa wb wc ra rb rc:Int)(e:Int){r:xN}(h:r=⟨(⟨id,sd,sh,st,gt,se,ge,dn,c,tx,⟨wa,wb,wc⟩,⟨ra,rb,rc⟩⟩:bZ),e⟩):Ending.returned (.tuple #[.agg #[.int .i64 id,.int .i64 sd,.int .i64 sh,.int .i64 st,.int .i64 gt,.bool se,.bool ge,.bool dn,.int .i64 c,.string tx,.int .i64 wa,.int .i64 wb,.int .i64 wc,.int .i64 ra,.int .i64 rb,.int .i64 rc],.int .i64 e])=Ending.returned (.tuple #[.agg (iP r.st),.int .i64 r.err]):=by rw[h]
theorem DF(s:Int):kG (c2 s)≤4611686018427387904∧kG (c4 s)≤4611686018427387904:=by
 unfold kG c2 c4
 constructor<;>(repeat' split)<;>omega
theorem kn{s:bZ}(h:cY s=true):0≤s.sent∧0≤s.got∧s.sent≤4611686018427387904∧s.got≤4611686018427387904:=by
 have ht:=DF s.shape
 unfold cY qk gU kl at h
 simp only[Bool.and_eq_true,decide_eq_true_eq]at h
 have:=h.1.2.2
 split at this<;>omega
theorem lz{f:aS}(h:aA f=0)(hk:f.kind=4):(bj f.data).err=0:=by
 unfold aA at h
 split at h
 · cases h
 split at h
 · cases h
 split at h
 · omega
 · first|exact h|(rw[if_pos hk]at h;exact h)
theorem je{n:Int}(h:0≤n∧n≤4611686018427387904):IntKind.i64.wrap (n+1)=n+1:=IntWalk.i64_in _ (by omega)
theorem wU(id sd sh st gt:Int)(se ge dn:Bool)(c:Int)(tx:ByteArray)(wa wb wc ra rb rc:Int){r:bZ}(h:r=(⟨id,sd,sh,st,gt,se,ge,dn,c,tx,⟨wa,wb,wc⟩,⟨ra,rb,rc⟩⟩:bZ)):Ending.returned (.agg #[.int .i64 id,.int .i64 sd,.int .i64 sh,.int .i64 st,.int .i64 gt,.bool se,.bool ge,.bool dn,.int .i64 c,.string tx,.int .i64 wa,.int .i64 wb,.int .i64 wc,.int .i64 ra,.int .i64 rb,.int .i64 rc])=Ending.returned (.agg (iP r)):=by rw[h]
theorem sB(id sd sh st gt:Int)(se ge dn:Bool)(c:Int)(tx:ByteArray)(wa wb wc ra rb rc:Int)(e1 e2 e3 e4:Int)(fk fs fn:Int)(fd:ByteArray)(w:World)(hfd:fd.size<4294967281):Calls Tryz.prog 167 #[.agg #[.int .i64 id,.int .i64 sd,.int .i64 sh,.int .i64 st,.int .i64 gt,.bool se,.bool ge,.bool dn,.int .i64 c,.string tx,.int .i64 wa,.int .i64 wb,.int .i64 wc,.int .i64 ra,.int .i64 rb,.int .i64 rc,.int .i64 e1,.int .i64 e2,.int .i64 e3,.int .i64 e4],.agg #[.int .i64 fk,.int .i64 fs,.int .i64 fn,.string fd]] w fun e w'=>e= .returned (.int .i64 (tL (⟨id,sd,sh,st,gt,se,ge,dn,c,tx,⟨wa,wb,wc⟩,⟨ra,rb,rc⟩⟩:bZ) e1 e3 fd))∧Below w.heap.size w w':=by
 refine ai Tryz.func167 rfl Tryz.ntmps167 J J ?_
 repeat' (first|refine aD ?_|refine ap ?_|refine ay ?_|refine bq ?_|refine bo ?_|refine aC ?_|refine aF ak rfl (by kernel_rfl) ?_|refine aK ?_|refine bD ?_|((first|refine' bJ rfl ?_ J J ?_|refine' cB rfl ?_ J J J ?_);rotate_left;first|exact ax ae J J J J|exact aM ae J J J J J J|exact cE J J J J J|exact dj J J J J J|exact ab ae 0 J J J J J|exact ab ae 2 J J J J J)|refine aH rfl (ag J J J J ⟨J,trivial⟩ rfl (by kernel_rfl)) (fun w hm=>mn _ w (by omega)) J J ?_|refine aU rfl (ag J J J J ⟨J,trivial⟩ rfl (by kernel_rfl)) rfl (fun w hm=>na _ _ _ _ _ _ _ _ _ _ _ _ _ _ _ _ _ _ _ _ w) J J ?_|refine aU rfl (ag J J J J ⟨J,trivial⟩ rfl (by kernel_rfl)) rfl (fun w hm=>lS _ _ _ _ _ _ _ _ _ _ _ _ _ _ _ _ _ _ _ _ w) J J ?_|refine aU rfl (ag J J J J ⟨J,trivial⟩ rfl (by kernel_rfl)) rfl (fun w hm=>sy _ _ _ _ _ _ _ _ _ _ _ _ _ _ _ _ _ _ _ _ w) J J ?_|(refine bQ J J J J J J ?_;intro g)|(refine br ae J J J J J J ?_;intro g)|refine av ae 0 J J J J J J J J J J J J ?_|refine bI rfl (fun h=> ?_) (fun h=> ?_))
 all_goals
  refine aI ae (fun _=>0) J J trivial rfl fun w hm=>⟨?_,hm.below⟩
  refine qs ?_
  clear hfd hm
  unfold tL
  grind
theorem va(id sd sh st gt:Int)(se ge dn:Bool)(c:Int)(tx:ByteArray)(wa wb wc ra rb rc:Int)(tc:Int)(tt:ByteArray)(w:World):Calls Tryz.prog 178 #[.agg #[.int .i64 id,.int .i64 sd,.int .i64 sh,.int .i64 st,.int .i64 gt,.bool se,.bool ge,.bool dn,.int .i64 c,.string tx,.int .i64 wa,.int .i64 wb,.int .i64 wc,.int .i64 ra,.int .i64 rb,.int .i64 rc],.agg #[.int .i64 tc,.string tt]] w fun e w'=>e= .returned (.agg #[.int .i64 id,.int .i64 sd,.int .i64 sh,.int .i64 st,.int .i64 gt,.bool true,.bool true,.bool true,.int .i64 tc,.string tt,.int .i64 wa,.int .i64 wb,.int .i64 wc,.int .i64 ra,.int .i64 rb,.int .i64 rc])∧Below w.heap.size w w':=by
 refine ai Tryz.func178 rfl Tryz.ntmps178 J J ?_
 repeat' (first|refine aD ?_|refine ap ?_|refine ay ?_|refine bq ?_|refine aK ?_|((refine' bJ rfl ?_ J J ?_);rotate_left;first|exact ax ae J J J J|exact ab ae 1 J J J J J|exact ab ae 2 J J J J J)|(refine bQ J J J J J J ?_;intro g)|(refine br ae J J J J J J ?_;intro g)|refine av ae 0 J J J J J J J J J J J J ?_|refine av ae 2 J J J J J J J J J J J J ?_)
 all_goals
  (refine aI ae (fun _=>0) J J ⟨J,trivial⟩ rfl fun w hm=>⟨?_,hm.below⟩)
  rfl
theorem oU(id sd sh st gt:Int)(se ge dn:Bool)(c:Int)(tx:ByteArray)(wa wb wc ra rb rc:Int)(fk fs fn:Int)(fd:ByteArray)(w:World)(hfd:fd.size<4294967281):Calls Tryz.prog 168 #[.agg #[.int .i64 id,.int .i64 sd,.int .i64 sh,.int .i64 st,.int .i64 gt,.bool se,.bool ge,.bool dn,.int .i64 c,.string tx,.int .i64 wa,.int .i64 wb,.int .i64 wc,.int .i64 ra,.int .i64 rb,.int .i64 rc],.agg #[.int .i64 fk,.int .i64 fs,.int .i64 fn,.string fd]] w fun e w'=>e= .returned (.agg #[.int .i64 id,.int .i64 sd,.int .i64 sh,.int .i64 st,.int .i64 gt,.bool true,.bool true,.bool true,.int .i64 (tM (⟨fk,fs,fn,fd⟩:aS)),.string (tN (⟨fk,fs,fn,fd⟩:aS)),.int .i64 wa,.int .i64 wb,.int .i64 wc,.int .i64 ra,.int .i64 rb,.int .i64 rc])∧Below w.heap.size w w':=by
 refine ai Tryz.func168 rfl Tryz.ntmps168 J J ?_
 repeat' (first|refine aD ?_|refine ap ?_|refine ay ?_|refine bq ?_|refine bo ?_|refine aC ?_|refine aK ?_|((refine' bJ rfl ?_ J J ?_);rotate_left;first|exact ax ae J J J J|exact aM ae J J J J J J|exact ab ae 0 J J J J J|exact ab ae 1 J J J J J|exact ab ae 2 J J J J J|exact ab ae 3 J J J J J|exact aj ae J J ⟨J,trivial⟩ J J J)|refine aH rfl (ag J J J J ⟨J,trivial⟩ rfl (by kernel_rfl)) (fun w hm=>mn _ w (by omega)) J J ?_|refine aH rfl (ag J J J J ⟨J,J,trivial⟩ rfl (by kernel_rfl)) (fun w hm=>va _ _ _ _ _ _ _ _ _ _ _ _ _ _ _ _ _ _ w) J J ?_|(refine bQ J J J J J J ?_;intro g)|(refine br ae J J J J J J ?_;intro g)|refine av ae 0 J J J J J J J J J J J J ?_|refine av ae 1 J J J J J J J J J J J J ?_|refine bI rfl (fun h=> ?_) (fun h=> ?_))
 all_goals
  (first|refine aI ae (fun _=>0) J J ⟨J,trivial⟩ rfl fun w hm=>⟨?_,hm.below⟩|refine aI ae (fun _=>1) J J ⟨J,trivial⟩ rfl fun w hm=>⟨?_,hm.below⟩)
  unfold tM tN
  simp_all
theorem BE(id sd sh st gt:Int)(se ge dn:Bool)(c:Int)(tx:ByteArray)(wa wb wc ra rb rc:Int)(fk fs fn:Int)(fd:ByteArray)(w:World)(htx:tx.size≤4611686018427387900)(hfd:fd.size<4294967281)(hl:MLen w):Calls Tryz.prog 107 #[.agg #[.int .i64 id,.int .i64 sd,.int .i64 sh,.int .i64 st,.int .i64 gt,.bool se,.bool ge,.bool dn,.int .i64 c,.string tx,.int .i64 wa,.int .i64 wb,.int .i64 wc,.int .i64 ra,.int .i64 rb,.int .i64 rc],.agg #[.int .i64 fk,.int .i64 fs,.int .i64 fn,.string fd]] w fun e w'=>e= .returned (.tuple #[.agg (iP (aZ (⟨id,sd,sh,st,gt,se,ge,dn,c,tx,⟨wa,wb,wc⟩,⟨ra,rb,rc⟩⟩:bZ) (⟨fk,fs,fn,fd⟩:aS)).st),.int .i64 (aZ (⟨id,sd,sh,st,gt,se,ge,dn,c,tx,⟨wa,wb,wc⟩,⟨ra,rb,rc⟩⟩:bZ) (⟨fk,fs,fn,fd⟩:aS)).err])∧Below w.heap.size w w':=by
 refine ai Tryz.func107 rfl Tryz.ntmps107 J J ?_
 repeat' (first|refine aD ?_|refine ap ?_|refine ay ?_|refine bq ?_|refine bo ?_|refine en ?_|refine aC ?_|refine cC ?_|refine dK ?_|refine aF ak rfl (by kernel_rfl) ?_|refine aK ?_|refine bD ?_|(refine bO ?_;intro g)|((first|refine' bJ rfl ?_ J J ?_|refine' cB rfl ?_ J J J ?_);rotate_left;first|exact ax ae J J J J|exact aM ae J J J J J J|exact cE J J J J J|exact ab ae 0 J J J J J|exact ab ae 1 J J J J J|exact ab ae 2 J J J J J|exact ab ae 3 J J J J J|exact ab ae 4 J J J J J)|refine aH rfl (ag J J J J ⟨J,trivial⟩ rfl (by kernel_rfl)) (fun w hm=>ly _ _ _ _ _ _ _ _ _ _ _ _ _ _ _ _ w (by omega)) J J ?_|refine aH rfl (ag J J J J ⟨J,trivial⟩ rfl (by kernel_rfl)) (fun w hm=>mo ⟨_,_,_,_⟩ w (hl.below hm.below) (by assumption)) J J ?_|refine aH rfl (ag J J J J ⟨J,trivial⟩ rfl (by kernel_rfl)) (fun w hm=>wS _ _ _ _ _ _ _ _ _ _ _ _ _ _ _ _ w) J J ?_|refine aH rfl (ag J J J J ⟨J,trivial⟩ rfl (by kernel_rfl)) (fun w hm=>eL _ _ _ _ _ _ _ _ _ _ _ _ _ _ _ _ _ _ _ _ w) J J ?_|refine aU rfl (ag J J J J ⟨J,trivial⟩ rfl (by kernel_rfl)) rfl (fun w hm=>eL _ _ _ _ _ _ _ _ _ _ _ _ _ _ _ _ _ _ _ _ w) J J ?_|refine aU rfl (ag J J J J ⟨J,J,trivial⟩ rfl (by kernel_rfl)) rfl (fun w hm=>uZ _ _ _ _ _ _ _ _ _ _ _ _ _ _ _ _ _ _ _ _ _ w) J J ?_|refine aU rfl (ag J J J J ⟨J,trivial⟩ rfl (by kernel_rfl)) rfl (fun w hm=>iO _ w) J J ?_|refine aU rfl (ag J J J J ⟨J,J,trivial⟩ rfl (by kernel_rfl)) rfl (fun w hm=>qm ⟨_,_,_⟩ _ w) J J ?_|refine aH rfl (ag J J J J ⟨J,J,trivial⟩ rfl (by kernel_rfl)) (fun w hm=>sB _ _ _ _ _ _ _ _ _ _ _ _ _ _ _ _ _ _ _ _ _ _ _ _ w (by assumption)) J J ?_|refine aH rfl (ag J J J J ⟨J,J,trivial⟩ rfl (by kernel_rfl)) (fun w hm=>oU _ _ _ _ _ _ _ _ _ _ _ _ _ _ _ _ _ _ _ _ w (by assumption)) J J ?_|(refine bQ J J J J J J ?_;intro g)|(refine br ae J J J J J J ?_;intro g)|refine cg ae J J J J J J ?_|refine av ae 0 J J J J J J J J J J J J ?_|refine av ae 1 J J J J J J J J J J J J ?_|refine av ae 2 J J J J J J J J J J J J ?_|refine av ae 3 J J J J J J J J J J J J ?_|refine av ae 4 J J J J J J J J J J J J ?_|refine bI rfl (fun h=> ?_) (fun h=> ?_))
 all_goals
  (first|refine aI ae (fun _=>0) J J ⟨J,trivial⟩ rfl fun w hm=>⟨?_,hm.below⟩|refine aI ae (fun _=>1) J J ⟨J,trivial⟩ rfl fun w hm=>⟨?_,hm.below⟩|refine aI ae (fun _=>2) J J ⟨J,trivial⟩ rfl fun w hm=>⟨?_,hm.below⟩)
 all_goals
  refine ot _ _ _ _ _ _ _ _ _ _ _ _ _ _ _ _ _ ?_
  clear htx hfd hm hl
  have hv:=fun h=>kn (s:=(⟨id,sd,sh,st,gt,se,ge,dn,c,tx,⟨wa,wb,wc⟩,⟨ra,rb,rc⟩⟩:bZ)) h
  have hw1:=fun h=>je (n:=st) h
  have hw2:=fun h=>je (n:=gt) h
  have hfu:=fun h=>lz (f:=(⟨fk,fs,fn,fd⟩:aS)) h
  unfold aZ iJ dU dq dr
  try unfold tM tN
  try unfold tL at *
  try (generalize cA ⟨wa,wb,wc⟩ (aG fd)=r at *;obtain⟨⟨r1,r2,r3⟩,r4⟩:=r)
  try (generalize bM ⟨ra,rb,rc⟩ (aG fd)=r at *;obtain⟨⟨r1,r2,r3⟩,r4⟩:=r)
  try (generalize cy ⟨wa,wb,wc⟩ fn=r at *;obtain⟨⟨r1,r2,r3⟩,r4⟩:=r)
  by_cases hsd:sd=1<;>first|grind|(clear hw1 hw2 hv hfu;grind (splits:=40))|(clear hw1 hw2 hv hfu;simp_all;have hh:= ‹((_∧_)∧fs=id)∧_›;obtain⟨⟨⟨_,ha⟩,rfl⟩,hb⟩:=hh;exact⟨ha,by omega,by omega⟩)
theorem BF(id sd sh st gt:Int)(se ge dn:Bool)(c:Int)(tx:ByteArray)(wa wb wc ra rb rc:Int)(fk fs fn:Int)(fd:ByteArray)(w:World)(htx:tx.size≤4611686018427387900)(hfd:fd.size<4294967281)(hl:MLen w):Calls Tryz.prog 204 #[.agg #[.int .i64 id,.int .i64 sd,.int .i64 sh,.int .i64 st,.int .i64 gt,.bool se,.bool ge,.bool dn,.int .i64 c,.string tx,.int .i64 wa,.int .i64 wb,.int .i64 wc,.int .i64 ra,.int .i64 rb,.int .i64 rc],.agg #[.int .i64 fk,.int .i64 fs,.int .i64 fn,.string fd]] w fun e w'=>e= .returned (.tuple #[.agg (iP (bu (⟨id,sd,sh,st,gt,se,ge,dn,c,tx,⟨wa,wb,wc⟩,⟨ra,rb,rc⟩⟩:bZ) (⟨fk,fs,fn,fd⟩:aS)).st),.int .i64 (bu (⟨id,sd,sh,st,gt,se,ge,dn,c,tx,⟨wa,wb,wc⟩,⟨ra,rb,rc⟩⟩:bZ) (⟨fk,fs,fn,fd⟩:aS)).err])∧Below w.heap.size w w':=by
 refine ai Tryz.func204 rfl Tryz.ntmps204 J J ?_
 repeat' (first|refine aD ?_|refine ap ?_|refine ay ?_|refine bq ?_|refine bo ?_|refine en ?_|refine aC ?_|refine cC ?_|refine dK ?_|refine aF ak rfl (by kernel_rfl) ?_|refine aK ?_|refine bD ?_|(refine bO ?_;intro g)|((first|refine' bJ rfl ?_ J J ?_|refine' cB rfl ?_ J J J ?_);rotate_left;first|exact ax ae J J J J|exact aM ae J J J J J J|exact cE J J J J J|exact ab ae 0 J J J J J|exact ab ae 1 J J J J J|exact ab ae 2 J J J J J|exact ab ae 3 J J J J J|exact ab ae 4 J J J J J)|refine aH rfl (ag J J J J ⟨J,trivial⟩ rfl (by kernel_rfl)) (fun w hm=>ly _ _ _ _ _ _ _ _ _ _ _ _ _ _ _ _ w (by omega)) J J ?_|refine aH rfl (ag J J J J ⟨J,trivial⟩ rfl (by kernel_rfl)) (fun w hm=>mo ⟨_,_,_,_⟩ w (hl.below hm.below) (by assumption)) J J ?_|refine aH rfl (ag J J J J ⟨J,trivial⟩ rfl (by kernel_rfl)) (fun w hm=>wS _ _ _ _ _ _ _ _ _ _ _ _ _ _ _ _ w) J J ?_|refine aH rfl (ag J J J J ⟨J,trivial⟩ rfl (by kernel_rfl)) (fun w hm=>eL _ _ _ _ _ _ _ _ _ _ _ _ _ _ _ _ _ _ _ _ w) J J ?_|refine aU rfl (ag J J J J ⟨J,trivial⟩ rfl (by kernel_rfl)) rfl (fun w hm=>eL _ _ _ _ _ _ _ _ _ _ _ _ _ _ _ _ _ _ _ _ w) J J ?_|refine aU rfl (ag J J J J ⟨J,J,trivial⟩ rfl (by kernel_rfl)) rfl (fun w hm=>uZ _ _ _ _ _ _ _ _ _ _ _ _ _ _ _ _ _ _ _ _ _ w) J J ?_|refine aU rfl (ag J J J J ⟨J,trivial⟩ rfl (by kernel_rfl)) rfl (fun w hm=>iO _ w) J J ?_|refine aU rfl (ag J J J J ⟨J,J,trivial⟩ rfl (by kernel_rfl)) rfl (fun w hm=>mX ⟨_,_,_⟩ _ w) J J ?_|refine aH rfl (ag J J J J ⟨J,J,trivial⟩ rfl (by kernel_rfl)) (fun w hm=>qn ⟨_,_,_⟩ _ w) J J ?_|refine aH rfl (ag J J J J ⟨J,J,trivial⟩ rfl (by kernel_rfl)) (fun w hm=>sB _ _ _ _ _ _ _ _ _ _ _ _ _ _ _ _ _ _ _ _ _ _ _ _ w (by assumption)) J J ?_|refine aH rfl (ag J J J J ⟨J,J,trivial⟩ rfl (by kernel_rfl)) (fun w hm=>oU _ _ _ _ _ _ _ _ _ _ _ _ _ _ _ _ _ _ _ _ w (by assumption)) J J ?_|(refine bQ J J J J J J ?_;intro g)|(refine br ae J J J J J J ?_;intro g)|refine cg ae J J J J J J ?_|refine av ae 0 J J J J J J J J J J J J ?_|refine av ae 1 J J J J J J J J J J J J ?_|refine av ae 2 J J J J J J J J J J J J ?_|refine av ae 3 J J J J J J J J J J J J ?_|refine av ae 4 J J J J J J J J J J J J ?_|refine bI rfl (fun h=> ?_) (fun h=> ?_))
 all_goals
  (first|refine aI ae (fun _=>0) J J ⟨J,trivial⟩ rfl fun w hm=>⟨?_,hm.below⟩|refine aI ae (fun _=>1) J J ⟨J,trivial⟩ rfl fun w hm=>⟨?_,hm.below⟩|refine aI ae (fun _=>2) J J ⟨J,trivial⟩ rfl fun w hm=>⟨?_,hm.below⟩)
 all_goals
  refine ot _ _ _ _ _ _ _ _ _ _ _ _ _ _ _ _ _ ?_
  clear htx hfd hm hl
  have hv:=fun h=>kn (s:=(⟨id,sd,sh,st,gt,se,ge,dn,c,tx,⟨wa,wb,wc⟩,⟨ra,rb,rc⟩⟩:bZ)) h
  have hw1:=fun h=>je (n:=st) h
  have hw2:=fun h=>je (n:=gt) h
  have hfu:=fun h=>lz (f:=(⟨fk,fs,fn,fd⟩:aS)) h
  unfold bu iJ dU dq dr
  try unfold tM tN
  try unfold tL at *
  try (generalize cA ⟨wa,wb,wc⟩ (aG fd)=r at *;obtain⟨⟨r1,r2,r3⟩,r4⟩:=r)
  try (generalize bM ⟨ra,rb,rc⟩ (aG fd)=r at *;obtain⟨⟨r1,r2,r3⟩,r4⟩:=r)
  try (generalize cy ⟨wa,wb,wc⟩ fn=r at *;obtain⟨⟨r1,r2,r3⟩,r4⟩:=r)
  by_cases hsd:sd=1<;>first|grind|(clear hw1 hw2 hv hfu;grind (splits:=40))|(clear hw1 hw2 hv hfu;simp_all;have hh:= ‹((_∧_)∧fs=id)∧_›;obtain⟨⟨⟨_,ha⟩,rfl⟩,hb⟩:=hh;exact⟨ha,by omega,by omega⟩)
theorem DG(id sd sh st gt:Int)(se ge dn:Bool)(c:Int)(tx:ByteArray)(wa wb wc ra rb rc:Int)(tc:Int)(tt:ByteArray)(w:World)(htx:tx.size≤4611686018427387900)(htt:tt.size≤4611686018427387900):Calls Tryz.prog 127 #[.agg #[.int .i64 id,.int .i64 sd,.int .i64 sh,.int .i64 st,.int .i64 gt,.bool se,.bool ge,.bool dn,.int .i64 c,.string tx,.int .i64 wa,.int .i64 wb,.int .i64 wc,.int .i64 ra,.int .i64 rb,.int .i64 rc],.agg #[.int .i64 tc,.string tt]] w fun e w'=>e= .returned (.agg (iP (ml (⟨id,sd,sh,st,gt,se,ge,dn,c,tx,⟨wa,wb,wc⟩,⟨ra,rb,rc⟩⟩:bZ) tc tt)))∧Below w.heap.size w w':=by
 refine ai Tryz.func127 rfl Tryz.ntmps127 J J ?_
 repeat' (first|refine aD ?_|refine ap ?_|refine ay ?_|refine bq ?_|refine bo ?_|refine aC ?_|refine aK ?_|((refine' bJ rfl ?_ J J ?_);rotate_left;first|exact ax ae J J J J|exact aM ae J J J J J J|exact cE J J J J J|exact ab ae 1 J J J J J|exact ab ae 2 J J J J J)|refine aH rfl (ag J J J J ⟨J,trivial⟩ rfl (by kernel_rfl)) (fun w hm=>ly _ _ _ _ _ _ _ _ _ _ _ _ _ _ _ _ w (by omega)) J J ?_|refine aH rfl (ag J J J J ⟨J,trivial⟩ rfl (by kernel_rfl)) (fun w hm=>gp _ _ w (by omega)) J J ?_|refine aH rfl (ag J J J J ⟨J,J,trivial⟩ rfl (by kernel_rfl)) (fun w hm=>va _ _ _ _ _ _ _ _ _ _ _ _ _ _ _ _ _ _ w) J J ?_|(refine bQ J J J J J J ?_;intro g)|(refine br ae J J J J J J ?_;intro g)|refine av ae 0 J J J J J J J J J J J J ?_|refine bI rfl (fun h=> ?_) (fun h=> ?_))
 all_goals
  (refine aI ae (fun _=>0) J J ⟨J,trivial⟩ rfl fun w hm=>⟨?_,hm.below⟩)
  refine wU _ _ _ _ _ _ _ _ _ _ _ _ _ _ _ _ ?_
  clear htx htt hm
  unfold ml dq
  grind
theorem vc(n:Int)(w:World):Calls Tryz.prog 43 #[.int .i64 n] w fun e w'=>e= .returned (.tuple #[.agg (ca (gT n).win),.int .i64 (gT n).err])∧Below w.heap.size w w':=by
 refine ai Tryz.func43 rfl Tryz.ntmps43 J J ?_
 repeat' (first|refine aD ?_|refine ap ?_|refine ay ?_|refine bq ?_|refine bo ?_|refine aC ?_|refine aK ?_|((refine' bJ rfl ?_ J J ?_);rotate_left;first|exact ax ae J J J J|exact aM ae J J J J J J|exact cE J J J J J|exact aj ae J J trivial J J J|exact aj ae J J ⟨J,J,trivial⟩ J J J)|(refine br ae J J J J J J ?_;intro g)|refine av ae 0 J J J J J J J J J J J J ?_|refine bI rfl (fun h=> ?_) (fun h=> ?_))
 all_goals
  (refine aI ae (fun _=>0) J J ⟨J,trivial⟩ rfl fun w hm=>⟨?_,hm.below⟩)
  unfold gT
  split<;>simp_all<;>omega
theorem BG(id sd sh n:Int)(w:World):Calls Tryz.prog 45 #[.int .i64 id,.int .i64 sd,.int .i64 sh,.int .i64 n] w fun e w'=>e= .returned (.tuple #[.agg (iP (cU id sd sh n).st),.int .i64 (cU id sd sh n).err])∧Below w.heap.size w w':=by
 refine ai Tryz.func45 rfl Tryz.ntmps45 J J ?_
 repeat' (first|refine aD ?_|refine ap ?_|refine ay ?_|refine bq ?_|refine bo ?_|refine aC ?_|refine aK ?_|((refine' bJ rfl ?_ J J ?_);rotate_left;first|exact ax ae J J J J|exact aM ae J J J J J J|exact cE J J J J J|exact dj J J J J J|exact ab ae 0 J J J J J|exact aj ae J J trivial J J J|exact aj ae J J ⟨J,J,J,J,J,trivial⟩ J J J)|refine aH rfl (ag J J J J ⟨J,trivial⟩ rfl (by kernel_rfl)) (fun w hm=>vc _ w) J J ?_|(refine br ae J J J J J J ?_;intro g)|refine av ae 0 J J J J J J J J J J J J ?_|refine av ae 1 J J J J J J J J J J J J ?_|refine bI rfl (fun h=> ?_) (fun h=> ?_))
 all_goals
  (refine aI ae (fun _=>1) J J ⟨J,trivial⟩ rfl fun w hm=>⟨?_,hm.below⟩)
  refine ot _ _ _ _ _ _ _ _ _ _ _ _ _ _ _ _ _ ?_
  clear hm
  unfold cU xM pr gT at *
  grind
theorem sD(n:Int)(w:World):Calls Tryz.prog 48 #[.int .i64 n] w fun e w'=>e= .returned (.tuple #[.agg (ca (gT n).win),.int .i64 (gT n).err])∧Below w.heap.size w w':=by
 refine ai Tryz.func48 rfl Tryz.ntmps48 J J ?_
 repeat' (first|refine aD ?_|refine ap ?_|refine ay ?_|refine bq ?_|refine bo ?_|refine aC ?_|refine aK ?_|((refine' bJ rfl ?_ J J ?_);rotate_left;first|exact ax ae J J J J|exact aM ae J J J J J J|exact cE J J J J J|exact aj ae J J trivial J J J|exact aj ae J J ⟨J,J,trivial⟩ J J J)|(refine br ae J J J J J J ?_;intro g)|refine av ae 0 J J J J J J J J J J J J ?_|refine bI rfl (fun h=> ?_) (fun h=> ?_))
 all_goals
  (refine aI ae (fun _=>0) J J ⟨J,trivial⟩ rfl fun w hm=>⟨?_,hm.below⟩)
  unfold gT
  split<;>simp_all<;>omega
theorem lT(id sd sh st gt:Int)(se ge dn:Bool)(c:Int)(tx:ByteArray)(wa wb wc ra rb rc:Int)(w:World):Calls Tryz.prog 149 #[.agg #[.int .i64 id,.int .i64 sd,.int .i64 sh,.int .i64 st,.int .i64 gt,.bool se,.bool ge,.bool dn,.int .i64 c,.string tx,.int .i64 wa,.int .i64 wb,.int .i64 wc,.int .i64 ra,.int .i64 rb,.int .i64 rc]] w fun e w'=>e= .returned (.tuple #[.int .i64 (gU (⟨id,sd,sh,st,gt,se,ge,dn,c,tx,⟨wa,wb,wc⟩,⟨ra,rb,rc⟩⟩:bZ)),.bool (lI (⟨id,sd,sh,st,gt,se,ge,dn,c,tx,⟨wa,wb,wc⟩,⟨ra,rb,rc⟩⟩:bZ))])∧Below w.heap.size w w':=by
 refine ai Tryz.func149 rfl Tryz.ntmps149 J J ?_
 repeat' (first|refine aD ?_|refine ap ?_|refine ay ?_|refine bq ?_|refine bo ?_|refine aC ?_|refine aF ak rfl (by kernel_rfl) ?_|refine aK ?_|refine bD ?_|((first|refine' bJ rfl ?_ J J ?_|refine' cB rfl ?_ J J J ?_);rotate_left;first|exact ax ae J J J J|exact aM ae J J J J J J|exact ab ae 0 J J J J J)|(refine bQ J J J J J J ?_;intro g)|refine bI rfl (fun h=> ?_) (fun h=> ?_))
 all_goals
  refine aI ae (fun _=>0) J J trivial rfl fun w hm=>⟨?_,hm.below⟩
  simp_all [gU,lI]
theorem kW(id sd sh st gt:Int)(se ge dn:Bool)(c:Int)(tx:ByteArray)(wa wb wc ra rb rc:Int)(w:World):Calls Tryz.prog 150 #[.agg #[.int .i64 id,.int .i64 sd,.int .i64 sh,.int .i64 st,.int .i64 gt,.bool se,.bool ge,.bool dn,.int .i64 c,.string tx,.int .i64 wa,.int .i64 wb,.int .i64 wc,.int .i64 ra,.int .i64 rb,.int .i64 rc]] w fun e w'=>e= .returned (.tuple #[.int .i64 (kl (⟨id,sd,sh,st,gt,se,ge,dn,c,tx,⟨wa,wb,wc⟩,⟨ra,rb,rc⟩⟩:bZ)),.bool (rB (⟨id,sd,sh,st,gt,se,ge,dn,c,tx,⟨wa,wb,wc⟩,⟨ra,rb,rc⟩⟩:bZ))])∧Below w.heap.size w w':=by
 refine ai Tryz.func150 rfl Tryz.ntmps150 J J ?_
 repeat' (first|refine aD ?_|refine ap ?_|refine ay ?_|refine bq ?_|refine bo ?_|refine aC ?_|refine aF ak rfl (by kernel_rfl) ?_|refine aK ?_|refine bD ?_|((first|refine' bJ rfl ?_ J J ?_|refine' cB rfl ?_ J J J ?_);rotate_left;first|exact ax ae J J J J|exact aM ae J J J J J J|exact ab ae 0 J J J J J)|(refine bQ J J J J J J ?_;intro g)|refine bI rfl (fun h=> ?_) (fun h=> ?_))
 all_goals
  refine aI ae (fun _=>0) J J trivial rfl fun w hm=>⟨?_,hm.below⟩
  simp_all [kl,rB]
theorem vd(n:Int)(w:World):Calls Tryz.prog 152 #[.int .i64 n] w fun e w'=>e= .returned (.int .i64 (kG n))∧Below w.heap.size w w':=by
 refine ai Tryz.func152 rfl Tryz.ntmps152 J J ?_
 repeat' (first|refine aD ?_|refine ap ?_|refine ay ?_|refine bq ?_|refine bo ?_|refine aC ?_|refine aK ?_|((refine' bJ rfl ?_ J J ?_);rotate_left;first|exact ax ae J J J J|exact aM ae J J J J J J)|refine bI rfl (fun h=> ?_) (fun h=> ?_))
 all_goals
  refine aI ae (fun _=>0) J J trivial rfl fun w hm=>⟨?_,hm.below⟩
  refine qs ?_
  unfold kG
  split<;>simp_all<;>omega
theorem qt(id sd sh st gt:Int)(se ge dn:Bool)(c:Int)(tx:ByteArray)(wa wb wc ra rb rc:Int)(w:World)(htx:tx.size≤4611686018427387900):Calls Tryz.prog 80 #[.agg #[.int .i64 id,.int .i64 sd,.int .i64 sh,.int .i64 st,.int .i64 gt,.bool se,.bool ge,.bool dn,.int .i64 c,.string tx,.int .i64 wa,.int .i64 wb,.int .i64 wc,.int .i64 ra,.int .i64 rb,.int .i64 rc]] w fun e w'=>e= .returned (.bool (cY (⟨id,sd,sh,st,gt,se,ge,dn,c,tx,⟨wa,wb,wc⟩,⟨ra,rb,rc⟩⟩:bZ)))∧Below w.heap.size w w':=by
 refine ai Tryz.func80 rfl Tryz.ntmps80 J J ?_
 repeat' (first|refine aD ?_|refine ap ?_|refine ay ?_|refine bq ?_|refine bo ?_|refine aC ?_|refine aK ?_|((refine' bJ rfl ?_ J J ?_);rotate_left;first|exact ax ae J J J J|exact aM ae J J J J J J|exact cE J J J J J|exact dj J J J J J|exact ab ae 0 J J J J J|exact gR ae ie J J J J J J (by kernel_rfl)|exact aj ae J J trivial J J J)|refine aH rfl (ag J J J J ⟨J,trivial⟩ rfl (by kernel_rfl)) (fun w hm=>jd ⟨_,_,_⟩ w) J J ?_|refine aH rfl (ag J J J J ⟨J,trivial⟩ rfl (by kernel_rfl)) (fun w hm=>ki (Bn _ w)) J J ?_|refine aH rfl (ag J J J J ⟨J,trivial⟩ rfl (by kernel_rfl)) (fun w hm=>lT _ _ _ _ _ _ _ _ _ _ _ _ _ _ _ _ w) J J ?_|refine aH rfl (ag J J J J ⟨J,trivial⟩ rfl (by kernel_rfl)) (fun w hm=>kW _ _ _ _ _ _ _ _ _ _ _ _ _ _ _ _ w) J J ?_|refine aH rfl (ag J J J J ⟨J,trivial⟩ rfl (by kernel_rfl)) (fun w hm=>ki (od _ w)) J J ?_|refine aH rfl (ag J J J J ⟨J,trivial⟩ rfl (by kernel_rfl)) (fun w hm=>vd _ w) J J ?_|refine aH rfl (ag J J J J ⟨J,trivial⟩ rfl (by kernel_rfl)) (fun w hm=>ec _ _ w htx) J J ?_|(refine bQ J J J J J J ?_;intro g)|refine bI rfl (fun h=> ?_) (fun h=> ?_))
 all_goals
  refine aI ae (fun _=>0) J J trivial rfl fun w hm=>⟨?_,hm.below⟩
  refine congrArg (fun b=>Ending.returned (Value.bool b)) ?_
  clear htx hm
  unfold cY qj qk xL
  try rw[su]
  unfold lI rB at *
  by_cases hsd:sd=1<;>grind
theorem sE(id sd sh st gt:Int)(se ge dn:Bool)(c:Int)(tx:ByteArray)(wa wb wc ra rb rc:Int)(tc:Int)(tt:ByteArray)(w:World):Calls Tryz.prog 199 #[.agg #[.int .i64 id,.int .i64 sd,.int .i64 sh,.int .i64 st,.int .i64 gt,.bool se,.bool ge,.bool dn,.int .i64 c,.string tx,.int .i64 wa,.int .i64 wb,.int .i64 wc,.int .i64 ra,.int .i64 rb,.int .i64 rc],.agg #[.int .i64 tc,.string tt]] w fun e w'=>e= .returned (.agg #[.int .i64 id,.int .i64 sd,.int .i64 sh,.int .i64 st,.int .i64 gt,.bool true,.bool true,.bool true,.int .i64 tc,.string tt,.int .i64 wa,.int .i64 wb,.int .i64 wc,.int .i64 ra,.int .i64 rb,.int .i64 rc])∧Below w.heap.size w w':=by
 refine ai Tryz.func199 rfl Tryz.ntmps199 J J ?_
 repeat' (first|refine aD ?_|refine ap ?_|refine ay ?_|refine bq ?_|refine aK ?_|((refine' bJ rfl ?_ J J ?_);rotate_left;first|exact ax ae J J J J|exact ab ae 1 J J J J J|exact ab ae 2 J J J J J)|(refine bQ J J J J J J ?_;intro g)|(refine br ae J J J J J J ?_;intro g)|refine av ae 0 J J J J J J J J J J J J ?_|refine av ae 2 J J J J J J J J J J J J ?_)
 all_goals
  (refine aI ae (fun _=>0) J J ⟨J,trivial⟩ rfl fun w hm=>⟨?_,hm.below⟩)
  rfl
theorem zf(id sd sh n:Int)(w:World):Calls Tryz.prog 110 #[.int .i64 id,.int .i64 sd,.int .i64 sh,.int .i64 n] w fun e w'=>e= .returned (.tuple #[.agg (iP (cU id sd sh n).st),.int .i64 (cU id sd sh n).err])∧Below w.heap.size w w':=by
 refine ai Tryz.func110 rfl Tryz.ntmps110 J J ?_
 repeat' (first|refine aD ?_|refine ap ?_|refine ay ?_|refine bq ?_|refine bo ?_|refine aC ?_|refine aK ?_|((refine' bJ rfl ?_ J J ?_);rotate_left;first|exact ax ae J J J J|exact aM ae J J J J J J|exact cE J J J J J|exact dj J J J J J|exact ab ae 0 J J J J J|exact aj ae J J trivial J J J|exact aj ae J J ⟨J,J,J,J,J,trivial⟩ J J J)|refine aH rfl (ag J J J J ⟨J,trivial⟩ rfl (by kernel_rfl)) (fun w hm=>sD _ w) J J ?_|refine aH rfl (ag J J J J ⟨J,trivial⟩ rfl (by kernel_rfl)) (fun w hm=>ki (Bn _ w)) J J ?_|(refine br ae J J J J J J ?_;intro g)|refine av ae 0 J J J J J J J J J J J J ?_|refine av ae 1 J J J J J J J J J J J J ?_|refine bI rfl (fun h=> ?_) (fun h=> ?_))
 all_goals
  (refine aI ae (fun _=>1) J J ⟨J,trivial⟩ rfl fun w hm=>⟨?_,hm.below⟩)
  refine ot _ _ _ _ _ _ _ _ _ _ _ _ _ _ _ _ _ ?_
  clear hm
  unfold cU xM gT at *
  grind
theorem BH(id sd sh st gt:Int)(se ge dn:Bool)(c:Int)(tx:ByteArray)(wa wb wc ra rb rc:Int)(tc:Int)(tt:ByteArray)(w:World)(htx:tx.size≤4611686018427387900)(htt:tt.size≤4611686018427387900):Calls Tryz.prog 177 #[.agg #[.int .i64 id,.int .i64 sd,.int .i64 sh,.int .i64 st,.int .i64 gt,.bool se,.bool ge,.bool dn,.int .i64 c,.string tx,.int .i64 wa,.int .i64 wb,.int .i64 wc,.int .i64 ra,.int .i64 rb,.int .i64 rc],.agg #[.int .i64 tc,.string tt]] w fun e w'=>e= .returned (.agg (iP (ml (⟨id,sd,sh,st,gt,se,ge,dn,c,tx,⟨wa,wb,wc⟩,⟨ra,rb,rc⟩⟩:bZ) tc tt)))∧Below w.heap.size w w':=by
 refine ai Tryz.func177 rfl Tryz.ntmps177 J J ?_
 repeat' (first|refine aD ?_|refine ap ?_|refine ay ?_|refine bq ?_|refine bo ?_|refine aC ?_|refine aK ?_|((refine' bJ rfl ?_ J J ?_);rotate_left;first|exact ax ae J J J J|exact aM ae J J J J J J|exact cE J J J J J|exact ab ae 1 J J J J J|exact ab ae 2 J J J J J)|refine aH rfl (ag J J J J ⟨J,trivial⟩ rfl (by kernel_rfl)) (fun w hm=>qt _ _ _ _ _ _ _ _ _ _ _ _ _ _ _ _ w (by omega)) J J ?_|refine aH rfl (ag J J J J ⟨J,trivial⟩ rfl (by kernel_rfl)) (fun w hm=>ec _ _ w (by omega)) J J ?_|refine aH rfl (ag J J J J ⟨J,J,trivial⟩ rfl (by kernel_rfl)) (fun w hm=>sE _ _ _ _ _ _ _ _ _ _ _ _ _ _ _ _ _ _ w) J J ?_|(refine bQ J J J J J J ?_;intro g)|(refine br ae J J J J J J ?_;intro g)|refine av ae 0 J J J J J J J J J J J J ?_|refine bI rfl (fun h=> ?_) (fun h=> ?_))
 all_goals
  (refine aI ae (fun _=>0) J J ⟨J,trivial⟩ rfl fun w hm=>⟨?_,hm.below⟩)
  refine wU _ _ _ _ _ _ _ _ _ _ _ _ _ _ _ _ ?_
  clear htx htt hm
  unfold ml dq
  grind
end Go.Proofs.YthiocbcokfondaaGreatDoor.Y
