import Derived.Test.YthiocbcokfondaaGreatDoorJStr2Y
import Derived.Test.YthiocbcokfondaaGreatDoorJBunR
set_option maxRecDepth 100000
set_option maxHeartbeats 32000000
namespace Go.Proofs.YthiocbcokfondaaGreatDoor.Y
open Go.RowKit
def ve(s:bZ)(f:aS)(window:Bool):Bool:=cY s&& (aA f==0) && (f.strm==s.id) && (f.kind==2||f.kind==3||f.kind==4||f.kind==5||(window&&f.kind==6))
def zg(s:bZ)(f:aS):Int:=
 if f.kind=2 then(if s.se=true then 20 else if kG (if s.side=1 then c2 s.shape else c4 s.shape)≤s.sent then 11 else 0)
 else if f.kind=3 then(if s.se=true∨s.side=2 then 20 else if s.sent<(if s.side=1 then c1 s.shape else c3 s.shape)then 11 else 0)
 else if f.kind=4 then(if s.side=1 then 20 else if(bj f.data).code=0∧dr s=true then 11 else 0)else 0
def sF(s:bZ)(f:aS):bZ:=
 if f.kind=2 then {s with sent:=IntKind.i64.wrap (s.sent+1)}else if f.kind=3 then {s with se:=true}
 else if f.kind=4 then dq s (bj f.data).code (bj f.data).text else if f.kind=5 then dq s f.num ⟨#[]⟩else s
theorem jN(d:ByteArray)(w:World):Calls Tryz.prog 112 #[.string d] w fun e w'=>e= .returned (.int .i64 (aG d))∧Below w.heap.size w w':=by
 refine ai Tryz.func112 rfl Tryz.ntmps112 J J ?_
 repeat' (first|refine aD ?_|refine ap ?_|refine ay ?_|refine bq ?_|refine aK ?_|((refine' bJ rfl ?_ J J ?_);rotate_left;first|exact ax ae J J J J|exact dv ae J J J J J J J|exact gu J J J J J))
 all_goals
  refine aI ae (fun _=>0) J J trivial rfl fun w hm=>⟨?_,hm.below⟩
  congr 2
  unfold aG
  split<;>split<;>omega
theorem vf(id sd sh st gt:Int)(se ge dn:Bool)(c:Int)(tx:ByteArray)(wa wb wc ra rb rc:Int)(fk fs fn:Int)(fd:ByteArray)(wd:Bool)(w:World)(htx:tx.size≤4611686018427387900)(hfd:fd.size<4294967281):Calls Tryz.prog 170 #[.agg #[.int .i64 id,.int .i64 sd,.int .i64 sh,.int .i64 st,.int .i64 gt,.bool se,.bool ge,.bool dn,.int .i64 c,.string tx,.int .i64 wa,.int .i64 wb,.int .i64 wc,.int .i64 ra,.int .i64 rb,.int .i64 rc],.agg #[.int .i64 fk,.int .i64 fs,.int .i64 fn,.string fd],.bool wd] w fun e w'=>e= .returned (.bool (ve (⟨id,sd,sh,st,gt,se,ge,dn,c,tx,⟨wa,wb,wc⟩,⟨ra,rb,rc⟩⟩:bZ) (⟨fk,fs,fn,fd⟩:aS) wd))∧Below w.heap.size w w':=by
 refine ai Tryz.func170 rfl Tryz.ntmps170 J J ?_
 repeat' (first|refine aD ?_|refine ap ?_|refine ay ?_|refine bq ?_|refine aK ?_|((refine' bJ rfl ?_ J J ?_);rotate_left;first|exact ax ae J J J J|exact aM ae J J J J J J|exact cE J J J J J|exact dj J J J J J|exact ab ae 0 J J J J J|exact ab ae 1 J J J J J)|refine aH rfl (ag J J J J ⟨J,trivial⟩ rfl (by kernel_rfl)) (fun w hm=>qt _ _ _ _ _ _ _ _ _ _ _ _ _ _ _ _ w (by assumption)) J J ?_|refine aH rfl (ag J J J J ⟨J,trivial⟩ rfl (by kernel_rfl)) (fun w hm=>oT ⟨_,_,_,_⟩ w (by assumption)) J J ?_|(refine bQ J J J J J J ?_;intro g))
 all_goals
  refine aI ae (fun _=>0) J J trivial rfl fun w hm=>⟨?_,hm.below⟩
  refine sA ?_
  clear hm
  unfold ve
  grind
theorem wV(id sd sh st gt:Int)(se ge dn:Bool)(c:Int)(tx:ByteArray)(wa wb wc ra rb rc:Int)(w:World):Calls Tryz.prog 197 #[.agg #[.int .i64 id,.int .i64 sd,.int .i64 sh,.int .i64 st,.int .i64 gt,.bool se,.bool ge,.bool dn,.int .i64 c,.string tx,.int .i64 wa,.int .i64 wb,.int .i64 wc,.int .i64 ra,.int .i64 rb,.int .i64 rc]] w fun e w'=>e= .returned (.tuple #[.int .i64 (if sd=1 then c1 sh else c3 sh),.int .i64 (if sd=1 then c2 sh else c4 sh)])∧Below w.heap.size w w':=by
 refine ai Tryz.func197 rfl Tryz.ntmps197 J J ?_
 repeat' (first|refine aD ?_|refine ap ?_|refine ay ?_|refine bq ?_|refine bo ?_|refine aC ?_|refine aK ?_|((refine' bJ rfl ?_ J J ?_);rotate_left;first|exact ax ae J J J J|exact aM ae J J J J J J|exact ab ae 0 J J J J J)|refine aH rfl (ag J J J J ⟨J,trivial⟩ rfl (by kernel_rfl)) (fun w hm=>ki (od _ w)) J J ?_|(refine bQ J J J J J J ?_;intro g)|refine bI rfl (fun h=> ?_) (fun h=> ?_))
 all_goals
  refine aI ae (fun _=>0) J J trivial rfl fun w hm=>⟨?_,hm.below⟩
  simp_all
theorem wW(id sd sh st gt:Int)(se ge dn:Bool)(c:Int)(tx:ByteArray)(wa wb wc ra rb rc:Int)(w:World):Calls Tryz.prog 198 #[.agg #[.int .i64 id,.int .i64 sd,.int .i64 sh,.int .i64 st,.int .i64 gt,.bool se,.bool ge,.bool dn,.int .i64 c,.string tx,.int .i64 wa,.int .i64 wb,.int .i64 wc,.int .i64 ra,.int .i64 rb,.int .i64 rc]] w fun e w'=>e= .returned (.bool (dr (⟨id,sd,sh,st,gt,se,ge,dn,c,tx,⟨wa,wb,wc⟩,⟨ra,rb,rc⟩⟩:bZ)))∧Below w.heap.size w w':=by
 refine ai Tryz.func198 rfl Tryz.ntmps198 J J ?_
 repeat' (first|refine aD ?_|refine ap ?_|refine ay ?_|refine bq ?_|refine aK ?_|((refine' bJ rfl ?_ J J ?_);rotate_left;first|exact ax ae J J J J|exact aM ae J J J J J J|exact cE J J J J J|exact dj J J J J J|exact ab ae 0 J J J J J)|refine aH rfl (ag J J J J ⟨J,trivial⟩ rfl (by kernel_rfl)) (fun w hm=>lT _ _ _ _ _ _ _ _ _ _ _ _ _ _ _ _ w) J J ?_|refine aH rfl (ag J J J J ⟨J,trivial⟩ rfl (by kernel_rfl)) (fun w hm=>kW _ _ _ _ _ _ _ _ _ _ _ _ _ _ _ _ w) J J ?_|refine aH rfl (ag J J J J ⟨J,trivial⟩ rfl (by kernel_rfl)) (fun w hm=>ki (od _ w)) J J ?_|(refine bQ J J J J J J ?_;intro g))
 all_goals
  refine aI ae (fun _=>0) J J trivial rfl fun w hm=>⟨?_,hm.below⟩
  refine sA ?_
  clear hm
  unfold dr
  grind
theorem vg(id sd sh st gt:Int)(se ge dn:Bool)(c:Int)(tx:ByteArray)(wa wb wc ra rb rc:Int)(fk fs fn:Int)(fd:ByteArray)(w:World)(hfd:fd.size<4294967281):Calls Tryz.prog 171 #[.agg #[.int .i64 id,.int .i64 sd,.int .i64 sh,.int .i64 st,.int .i64 gt,.bool se,.bool ge,.bool dn,.int .i64 c,.string tx,.int .i64 wa,.int .i64 wb,.int .i64 wc,.int .i64 ra,.int .i64 rb,.int .i64 rc],.agg #[.int .i64 fk,.int .i64 fs,.int .i64 fn,.string fd]] w fun e w'=>e= .returned (.int .i64 (zg (⟨id,sd,sh,st,gt,se,ge,dn,c,tx,⟨wa,wb,wc⟩,⟨ra,rb,rc⟩⟩:bZ) (⟨fk,fs,fn,fd⟩:aS)))∧Below w.heap.size w w':=by
 refine ai Tryz.func171 rfl Tryz.ntmps171 J J ?_
 repeat' (first|refine aD ?_|refine ap ?_|refine ay ?_|refine bq ?_|refine bo ?_|refine en ?_|refine aC ?_|refine cC ?_|refine dK ?_|refine aF ak rfl (by kernel_rfl) ?_|refine aK ?_|refine bD ?_|((first|refine' bJ rfl ?_ J J ?_|refine' cB rfl ?_ J J J ?_);rotate_left;first|exact ax ae J J J J|exact aM ae J J J J J J|exact cE J J J J J|exact dj J J J J J|exact ab ae 0 J J J J J|exact ab ae 1 J J J J J|exact ab ae 2 J J J J J)|refine aH rfl (ag J J J J ⟨J,trivial⟩ rfl (by kernel_rfl)) (fun w hm=>wV _ _ _ _ _ _ _ _ _ _ _ _ _ _ _ _ w) J J ?_|refine aH rfl (ag J J J J ⟨J,trivial⟩ rfl (by kernel_rfl)) (fun w hm=>gF _ w (by omega)) J J ?_|refine aU rfl (ag J J J J ⟨J,trivial⟩ rfl (by kernel_rfl)) rfl (fun w hm=>vd _ w) J J ?_|refine aH rfl (ag J J J J ⟨J,trivial⟩ rfl (by kernel_rfl)) (fun w hm=>wW _ _ _ _ _ _ _ _ _ _ _ _ _ _ _ _ w) J J ?_|(refine bQ J J J J J J ?_;intro g)|(refine br ae J J J J J J ?_;intro g)|refine av ae 0 J J J J J J J J J J J J ?_|refine bI rfl (fun h=> ?_) (fun h=> ?_))
 all_goals
  refine aI ae (fun _=>0) J J trivial rfl fun w hm=>⟨?_,hm.below⟩
  refine qs ?_
  clear hm hfd
  unfold zg
  grind
theorem sG(id sd sh st gt:Int)(se ge dn:Bool)(c:Int)(tx:ByteArray)(wa wb wc ra rb rc:Int)(fk fs fn:Int)(fd:ByteArray)(w:World)(hfd:fd.size<4294967281):Calls Tryz.prog 172 #[.agg #[.int .i64 id,.int .i64 sd,.int .i64 sh,.int .i64 st,.int .i64 gt,.bool se,.bool ge,.bool dn,.int .i64 c,.string tx,.int .i64 wa,.int .i64 wb,.int .i64 wc,.int .i64 ra,.int .i64 rb,.int .i64 rc],.agg #[.int .i64 fk,.int .i64 fs,.int .i64 fn,.string fd]] w fun e w'=>e= .returned (.agg (iP (sF (⟨id,sd,sh,st,gt,se,ge,dn,c,tx,⟨wa,wb,wc⟩,⟨ra,rb,rc⟩⟩:bZ) (⟨fk,fs,fn,fd⟩:aS))))∧Below w.heap.size w w':=by
 refine ai Tryz.func172 rfl Tryz.ntmps172 J J ?_
 repeat' (first|refine aD ?_|refine ap ?_|refine ay ?_|refine bq ?_|refine bo ?_|refine en ?_|refine aC ?_|refine cC ?_|refine dK ?_|refine aK ?_|((refine' bJ rfl ?_ J J ?_);rotate_left;first|exact ax ae J J J J|exact aM ae J J J J J J|exact ab ae 0 J J J J J|exact ab ae 1 J J J J J|exact ab ae 2 J J J J J|exact ab ae 3 J J J J J|exact aj ae J J ⟨J,trivial⟩ J J J)|refine aH rfl (ag J J J J ⟨J,trivial⟩ rfl (by kernel_rfl)) (fun w hm=>gF _ w (by omega)) J J ?_|refine aH rfl (ag J J J J ⟨J,J,trivial⟩ rfl (by kernel_rfl)) (fun w hm=>sE _ _ _ _ _ _ _ _ _ _ _ _ _ _ _ _ _ _ w) J J ?_|(refine bQ J J J J J J ?_;intro g)|(refine br ae J J J J J J ?_;intro g)|refine av ae 0 J J J J J J J J J J J J ?_|refine av ae 1 J J J J J J J J J J J J ?_|refine av ae 2 J J J J J J J J J J J J ?_|refine bI rfl (fun h=> ?_) (fun h=> ?_))
 all_goals
  (first|refine aI ae (fun _=>0) J J ⟨J,trivial⟩ rfl fun w hm=>⟨?_,hm.below⟩|refine aI ae (fun _=>1) J J ⟨J,trivial⟩ rfl fun w hm=>⟨?_,hm.below⟩)
  refine wU _ _ _ _ _ _ _ _ _ _ _ _ _ _ _ _ ?_
  clear hm hfd
  unfold sF dq
  grind
theorem vi(id sd sh st gt:Int)(se ge dn:Bool)(c:Int)(tx:ByteArray)(wa wb wc ra rb rc:Int)(w:World):Calls Tryz.prog 201 #[.agg #[.int .i64 id,.int .i64 sd,.int .i64 sh,.int .i64 st,.int .i64 gt,.bool se,.bool ge,.bool dn,.int .i64 c,.string tx,.int .i64 wa,.int .i64 wb,.int .i64 wc,.int .i64 ra,.int .i64 rb,.int .i64 rc]] w fun e w'=>e= .returned (.agg #[.int .i64 id,.int .i64 (IntKind.i64.wrap (3-sd)),.int .i64 sh,.int .i64 gt,.int .i64 st,.bool ge,.bool se,.bool dn,.int .i64 c,.string tx,.int .i64 ra,.int .i64 rb,.int .i64 rc,.int .i64 wa,.int .i64 wb,.int .i64 wc])∧Below w.heap.size w w':=by
 refine ai Tryz.func201 rfl Tryz.ntmps201 J J ?_
 repeat' (first|refine aD ?_|refine ap ?_|refine ay ?_|refine bq ?_|refine aK ?_|((refine' bJ rfl ?_ J J ?_);rotate_left;first|exact ax ae J J J J|exact aM ae J J J J J J|exact ab ae 0 J J J J J|exact ab ae 1 J J J J J|exact ab ae 2 J J J J J)|(refine bQ J J J J J J ?_;intro g)|(refine br ae J J J J J J ?_;intro g)|refine av ae 0 J J J J J J J J J J J J ?_|refine av ae 1 J J J J J J J J J J J J ?_)
 all_goals
  (refine aI ae (fun _=>1) J J ⟨J,trivial⟩ rfl fun w hm=>⟨?_,hm.below⟩)
  rfl
theorem kX(x:bk)(n:Int)(w:World):Calls Tryz.prog 173 #[.agg (ca x),.int .i64 n] w fun e w'=>e= .returned (.tuple #[.agg (ca (cA x n).win),.int .i64 (cA x n).err])∧Below w.heap.size w w':=by
 obtain⟨wa,wb,wc⟩:=x
 refine ai Tryz.func173 rfl Tryz.ntmps173 J J ?_
 repeat' (first|refine aD ?_|refine ap ?_|refine ay ?_|refine bq ?_|refine bo ?_|refine aC ?_|refine aK ?_|((refine' bJ rfl ?_ J J ?_);rotate_left;first|exact ax ae J J J J|exact aM ae J J J J J J|exact cE J J J J J|exact ab ae 1 J J J J J)|refine aH rfl (ag J J J J ⟨J,trivial⟩ rfl (by kernel_rfl)) (fun w hm=>jd ⟨_,_,_⟩ w) J J ?_|(refine bQ J J J J J J ?_;intro g)|(refine br ae J J J J J J ?_;intro g)|refine av ae 0 J J J J J J J J J J J J ?_|refine av ae 1 J J J J J J J J J J J J ?_|refine bI rfl (fun h=> ?_) (fun h=> ?_))
 all_goals
  (refine aI ae (fun _=>0) J J ⟨J,trivial⟩ rfl fun w hm=>⟨?_,hm.below⟩)
  clear hm
  unfold cA at *
  have w1:=fun h=>IntWalk.i64_in (wb-n) h
  have w2:=fun h=>IntWalk.i64_in (wc+n) h
  have w3:=fun h=>IntWalk.i64_in (1048576-wb) h
  have w4:=fun h=>IntWalk.i64_in (1048576-wb-wc) h
  have w5:=fun h=>IntWalk.i64_in (wb+n) h
  unfold bi at *
  grind
theorem lU(x:bk)(n:Int)(w:World):Calls Tryz.prog 122 #[.agg (ca x),.int .i64 n] w fun e w'=>e= .returned (.tuple #[.agg (ca (bM x n).win),.int .i64 (bM x n).err])∧Below w.heap.size w w':=by
 obtain⟨wa,wb,wc⟩:=x
 refine ai Tryz.func122 rfl Tryz.ntmps122 J J ?_
 repeat' (first|refine aD ?_|refine ap ?_|refine ay ?_|refine bq ?_|refine bo ?_|refine aC ?_|refine aK ?_|((refine' bJ rfl ?_ J J ?_);rotate_left;first|exact ax ae J J J J|exact aM ae J J J J J J|exact ab ae 1 J J J J J)|refine aH rfl (ag J J J J ⟨J,J,trivial⟩ rfl (by kernel_rfl)) (fun w hm=>kX ⟨_,_,_⟩ _ w) J J ?_|(refine bQ J J J J J J ?_;intro g)|(refine br ae J J J J J J ?_;intro g)|refine av ae 0 J J J J J J J J J J J J ?_|refine av ae 1 J J J J J J J J J J J J ?_|refine bI rfl (fun h=> ?_) (fun h=> ?_))
 all_goals
  (refine aI ae (fun _=>0) J J ⟨J,trivial⟩ rfl fun w hm=>⟨?_,hm.below⟩)
  clear hm
  unfold cA bM at *
  have w1:=fun h=>IntWalk.i64_in (wb-n) h
  have w2:=fun h=>IntWalk.i64_in (wc+n) h
  have w3:=fun h=>IntWalk.i64_in (1048576-wb) h
  have w4:=fun h=>IntWalk.i64_in (1048576-wb-wc) h
  have w5:=fun h=>IntWalk.i64_in (wb+n) h
  unfold bi at *
  grind
theorem oV(x:bk)(n:Int)(w:World):Calls Tryz.prog 125 #[.agg (ca x),.int .i64 n] w fun e w'=>e= .returned (.tuple #[.agg (ca (cy x n).win),.int .i64 (cy x n).err])∧Below w.heap.size w w':=by
 obtain⟨wa,wb,wc⟩:=x
 refine ai Tryz.func125 rfl Tryz.ntmps125 J J ?_
 repeat' (first|refine aD ?_|refine ap ?_|refine ay ?_|refine bq ?_|refine bo ?_|refine aC ?_|refine aK ?_|((refine' bJ rfl ?_ J J ?_);rotate_left;first|exact ax ae J J J J|exact aM ae J J J J J J|exact cE J J J J J|exact ab ae 1 J J J J J)|refine aH rfl (ag J J J J ⟨J,trivial⟩ rfl (by kernel_rfl)) (fun w hm=>jd ⟨_,_,_⟩ w) J J ?_|(refine bQ J J J J J J ?_;intro g)|(refine br ae J J J J J J ?_;intro g)|refine av ae 0 J J J J J J J J J J J J ?_|refine av ae 1 J J J J J J J J J J J J ?_|refine bI rfl (fun h=> ?_) (fun h=> ?_))
 all_goals
  (refine aI ae (fun _=>0) J J ⟨J,trivial⟩ rfl fun w hm=>⟨?_,hm.below⟩)
  clear hm
  unfold cy at *
  have w1:=fun h=>IntWalk.i64_in (wb-n) h
  have w2:=fun h=>IntWalk.i64_in (wc+n) h
  have w3:=fun h=>IntWalk.i64_in (1048576-wb) h
  have w4:=fun h=>IntWalk.i64_in (1048576-wb-wc) h
  have w5:=fun h=>IntWalk.i64_in (wb+n) h
  unfold bi at *
  grind
theorem nb{s:bZ}(h:cY s=true):s.side=1∨s.side=2:=by
 unfold cY qj at h
 simp only[Bool.and_eq_true,decide_eq_true_eq]at h
 exact h.1.1.1.2.2
theorem zh(id sd sh st gt:Int)(se ge dn:Bool)(c:Int)(tx:ByteArray)(wa wb wc ra rb rc:Int)(fk fs fn:Int)(fd:ByteArray)(w:World)(htx:tx.size≤4611686018427387900)(hfd:fd.size<4294967281):Calls Tryz.prog 116 #[.agg #[.int .i64 id,.int .i64 sd,.int .i64 sh,.int .i64 st,.int .i64 gt,.bool se,.bool ge,.bool dn,.int .i64 c,.string tx,.int .i64 wa,.int .i64 wb,.int .i64 wc,.int .i64 ra,.int .i64 rb,.int .i64 rc],.agg #[.int .i64 fk,.int .i64 fs,.int .i64 fn,.string fd]] w fun e w'=>e= .returned (.tuple #[.agg (iP (aZ (⟨id,sd,sh,st,gt,se,ge,dn,c,tx,⟨wa,wb,wc⟩,⟨ra,rb,rc⟩⟩:bZ) (⟨fk,fs,fn,fd⟩:aS)).st),.int .i64 (aZ (⟨id,sd,sh,st,gt,se,ge,dn,c,tx,⟨wa,wb,wc⟩,⟨ra,rb,rc⟩⟩:bZ) (⟨fk,fs,fn,fd⟩:aS)).err])∧Below w.heap.size w w':=by
 refine ai Tryz.func116 rfl Tryz.ntmps116 J J ?_
 repeat' (first|refine aD ?_|refine ap ?_|refine ay ?_|refine bq ?_|refine bo ?_|refine aC ?_|refine aF ak rfl (by kernel_rfl) ?_|refine aK ?_|refine bD ?_|(refine bO ?_;intro g)|((first|refine' bJ rfl ?_ J J ?_|refine' cB rfl ?_ J J J ?_);rotate_left;first|exact ax ae J J J J|exact aM ae J J J J J J|exact ab ae 0 J J J J J|exact ab ae 1 J J J J J|exact ab ae 2 J J J J J|exact ab ae 3 J J J J J|exact ab ae 4 J J J J J)|refine aH rfl (ag J J J J ⟨J,J,J,trivial⟩ rfl (by kernel_rfl)) (fun w hm=>vf _ _ _ _ _ _ _ _ _ _ _ _ _ _ _ _ _ _ _ _ _ w (by assumption) (by assumption)) J J ?_|refine aH rfl (ag J J J J ⟨J,J,trivial⟩ rfl (by kernel_rfl)) (fun w hm=>vg _ _ _ _ _ _ _ _ _ _ _ _ _ _ _ _ _ _ _ _ w (by assumption)) J J ?_|refine aH rfl (ag J J J J ⟨J,J,trivial⟩ rfl (by kernel_rfl)) (fun w hm=>sG _ _ _ _ _ _ _ _ _ _ _ _ _ _ _ _ _ _ _ _ w (by assumption)) J J ?_|refine aU rfl (ag J J J J ⟨J,trivial⟩ rfl (by kernel_rfl)) rfl (fun w hm=>jN _ w) J J ?_|refine aU rfl (ag J J J J ⟨J,J,trivial⟩ rfl (by kernel_rfl)) rfl (fun w hm=>kX ⟨_,_,_⟩ _ w) J J ?_|(refine bQ J J J J J J ?_;intro g)|(refine br ae J J J J J J ?_;intro g)|refine cg ae J J J J J J ?_|refine av ae 0 J J J J J J J J J J J J ?_|refine av ae 1 J J J J J J J J J J J J ?_|refine av ae 2 J J J J J J J J J J J J ?_|refine bI rfl (fun h=> ?_) (fun h=> ?_))
 all_goals
  (first|refine aI ae (fun _=>0) J J ⟨J,trivial⟩ rfl fun w hm=>⟨?_,hm.below⟩|refine aI ae (fun _=>1) J J ⟨J,trivial⟩ rfl fun w hm=>⟨?_,hm.below⟩|refine aI ae (fun _=>2) J J ⟨J,trivial⟩ rfl fun w hm=>⟨?_,hm.below⟩)
 all_goals
  refine ot _ _ _ _ _ _ _ _ _ _ _ _ _ _ _ _ _ ?_
  clear htx hfd hm
  have hv:=fun h=>kn (s:=(⟨id,sd,sh,st,gt,se,ge,dn,c,tx,⟨wa,wb,wc⟩,⟨ra,rb,rc⟩⟩:bZ)) h
  have hsd:=fun h=>nb (s:=(⟨id,sd,sh,st,gt,se,ge,dn,c,tx,⟨wa,wb,wc⟩,⟨ra,rb,rc⟩⟩:bZ)) h
  have hw1:=fun h=>je (n:=st) h
  have hw2:=fun h=>je (n:=gt) h
  have hfu:=fun h=>lz (f:=(⟨fk,fs,fn,fd⟩:aS)) h
  have e1:IntKind.i64.wrap (3-1)=2:=by decide
  have e2:IntKind.i64.wrap (3-2)=1:=by decide
  by_cases hs1:sd=1
  · subst hs1
    have et:dr ⟨id,2,sh,gt,st,ge,se,dn,c,tx,⟨ra,rb,rc⟩,⟨wa,wb,wc⟩⟩=dr ⟨id,1,sh,st,gt,se,ge,dn,c,tx,⟨wa,wb,wc⟩,⟨ra,rb,rc⟩⟩:=by simp[dr,gU,kl,lI]
    simp only[e1,e2]at *
    unfold aZ
    try unfold sF
    try unfold zg at *
    try unfold ve at *
    try unfold iJ
    try unfold dU
    try unfold dq
    try (generalize cA ⟨wa,wb,wc⟩ (aG fd)=r at *;obtain⟨⟨r1,r2,r3⟩,r4⟩:=r)
    try (generalize bM ⟨ra,rb,rc⟩ (aG fd)=r at *;obtain⟨⟨r1,r2,r3⟩,r4⟩:=r)
    try (generalize cy ⟨wa,wb,wc⟩ fn=r at *;obtain⟨⟨r1,r2,r3⟩,r4⟩:=r)
    first|grind|(rcases(show fk<2∨fk=2∨fk=3∨fk=4∨fk=5∨fk=6∨6<fk by omega)with hk|rfl|rfl|rfl|rfl|rfl|hk<;>first|grind|(clear hw1 hw2 hv hfu;grind (splits:=40))|(clear hw1 hw2 hv hfu;have n2:fk≠2:=(by omega);have n3:fk≠3:=(by omega);have n4:fk≠4:=(by omega);have n5:fk≠5:=(by omega);have n6:fk≠6:=(by omega);simp_all;done)|(clear hw1 hw2 hv hfu;simp_all;done)|(have d1:IntKind.i64.wrap (3-1)=2:=(by decide);have d2:IntKind.i64.wrap (3-2)=1:=(by decide);have d3:IntKind.i64.wrap 2=2:=(by decide);have d4:IntKind.i64.wrap 1=1:=(by decide);simp_all;grind)|(have d1:IntKind.i64.wrap (3-1)=2:=(by decide);have d2:IntKind.i64.wrap (3-2)=1:=(by decide);have d3:IntKind.i64.wrap 2=2:=(by decide);have d4:IntKind.i64.wrap 1=1:=(by decide);simp_all;grind))
  · by_cases hs2:sd=2
    · subst hs2
      have et:dr ⟨id,1,sh,gt,st,ge,se,dn,c,tx,⟨ra,rb,rc⟩,⟨wa,wb,wc⟩⟩=dr ⟨id,2,sh,st,gt,se,ge,dn,c,tx,⟨wa,wb,wc⟩,⟨ra,rb,rc⟩⟩:=by simp[dr,gU,kl,lI]
      simp only[e1,e2]at *
      unfold aZ
      try unfold sF
      try unfold zg at *
      try unfold ve at *
      try unfold iJ
      try unfold dU
      try unfold dq
      try (generalize cA ⟨wa,wb,wc⟩ (aG fd)=r at *;obtain⟨⟨r1,r2,r3⟩,r4⟩:=r)
      try (generalize bM ⟨ra,rb,rc⟩ (aG fd)=r at *;obtain⟨⟨r1,r2,r3⟩,r4⟩:=r)
      try (generalize cy ⟨wa,wb,wc⟩ fn=r at *;obtain⟨⟨r1,r2,r3⟩,r4⟩:=r)
      first|grind|(rcases(show fk<2∨fk=2∨fk=3∨fk=4∨fk=5∨fk=6∨6<fk by omega)with hk|rfl|rfl|rfl|rfl|rfl|hk<;>first|grind|(clear hw1 hw2 hv hfu;grind (splits:=40))|(clear hw1 hw2 hv hfu;have n2:fk≠2:=(by omega);have n3:fk≠3:=(by omega);have n4:fk≠4:=(by omega);have n5:fk≠5:=(by omega);have n6:fk≠6:=(by omega);simp_all;done)|(clear hw1 hw2 hv hfu;simp_all;done)|(have d1:IntKind.i64.wrap (3-1)=2:=(by decide);have d2:IntKind.i64.wrap (3-2)=1:=(by decide);have d3:IntKind.i64.wrap 2=2:=(by decide);have d4:IntKind.i64.wrap 1=1:=(by decide);simp_all;grind)|(have d1:IntKind.i64.wrap (3-1)=2:=(by decide);have d2:IntKind.i64.wrap (3-2)=1:=(by decide);have d3:IntKind.i64.wrap 2=2:=(by decide);have d4:IntKind.i64.wrap 1=1:=(by decide);simp_all;grind))
    · have hbad:cY (⟨id,sd,sh,st,gt,se,ge,dn,c,tx,⟨wa,wb,wc⟩,⟨ra,rb,rc⟩⟩:bZ)=false:=by cases hh:cY (⟨id,sd,sh,st,gt,se,ge,dn,c,tx,⟨wa,wb,wc⟩,⟨ra,rb,rc⟩⟩:bZ)with|false=>rfl|true=>exact absurd (hsd hh) (by simp only;omega)
      unfold aZ
      try unfold ve at *
      first|grind|(clear hw1 hw2 hv hfu;simp_all;done)
theorem zi(id sd sh st gt:Int)(se ge dn:Bool)(c:Int)(tx:ByteArray)(wa wb wc ra rb rc:Int)(fk fs fn:Int)(fd:ByteArray)(w:World)(htx:tx.size≤4611686018427387900)(hfd:fd.size<4294967281):Calls Tryz.prog 175 #[.agg #[.int .i64 id,.int .i64 sd,.int .i64 sh,.int .i64 st,.int .i64 gt,.bool se,.bool ge,.bool dn,.int .i64 c,.string tx,.int .i64 wa,.int .i64 wb,.int .i64 wc,.int .i64 ra,.int .i64 rb,.int .i64 rc],.agg #[.int .i64 fk,.int .i64 fs,.int .i64 fn,.string fd]] w fun e w'=>e= .returned (.tuple #[.agg (iP (bu (⟨id,sd,sh,st,gt,se,ge,dn,c,tx,⟨wa,wb,wc⟩,⟨ra,rb,rc⟩⟩:bZ) (⟨fk,fs,fn,fd⟩:aS)).st),.int .i64 (bu (⟨id,sd,sh,st,gt,se,ge,dn,c,tx,⟨wa,wb,wc⟩,⟨ra,rb,rc⟩⟩:bZ) (⟨fk,fs,fn,fd⟩:aS)).err])∧Below w.heap.size w w':=by
 refine ai Tryz.func175 rfl Tryz.ntmps175 J J ?_
 repeat' (first|refine aD ?_|refine ap ?_|refine ay ?_|refine bq ?_|refine bo ?_|refine aC ?_|refine aF ak rfl (by kernel_rfl) ?_|refine aK ?_|refine bD ?_|(refine bO ?_;intro g)|((first|refine' bJ rfl ?_ J J ?_|refine' cB rfl ?_ J J J ?_);rotate_left;first|exact ax ae J J J J|exact aM ae J J J J J J|exact ab ae 0 J J J J J|exact ab ae 1 J J J J J|exact ab ae 2 J J J J J|exact ab ae 3 J J J J J|exact ab ae 4 J J J J J)|refine aH rfl (ag J J J J ⟨J,J,J,trivial⟩ rfl (by kernel_rfl)) (fun w hm=>vf _ _ _ _ _ _ _ _ _ _ _ _ _ _ _ _ _ _ _ _ _ w (by assumption) (by assumption)) J J ?_|refine aU rfl (ag J J J J ⟨J,J,trivial⟩ rfl (by kernel_rfl)) rfl (fun w hm=>vg _ _ _ _ _ _ _ _ _ _ _ _ _ _ _ _ _ _ _ _ w (by assumption)) J J ?_|refine aU rfl (ag J J J J ⟨J,J,trivial⟩ rfl (by kernel_rfl)) rfl (fun w hm=>sG _ _ _ _ _ _ _ _ _ _ _ _ _ _ _ _ _ _ _ _ w (by assumption)) J J ?_|refine aU rfl (ag J J J J ⟨J,trivial⟩ rfl (by kernel_rfl)) rfl (fun w hm=>vi _ _ _ _ _ _ _ _ _ _ _ _ _ _ _ _ w) J J ?_|refine aU rfl (ag J J J J ⟨J,trivial⟩ rfl (by kernel_rfl)) rfl (fun w hm=>jN _ w) J J ?_|refine aU rfl (ag J J J J ⟨J,J,trivial⟩ rfl (by kernel_rfl)) rfl (fun w hm=>lU ⟨_,_,_⟩ _ w) J J ?_|refine aH rfl (ag J J J J ⟨J,J,trivial⟩ rfl (by kernel_rfl)) (fun w hm=>oV ⟨_,_,_⟩ _ w) J J ?_|(refine bQ J J J J J J ?_;intro g)|(refine br ae J J J J J J ?_;intro g)|refine cg ae J J J J J J ?_|refine av ae 0 J J J J J J J J J J J J ?_|refine av ae 1 J J J J J J J J J J J J ?_|refine av ae 2 J J J J J J J J J J J J ?_|refine av ae 3 J J J J J J J J J J J J ?_|refine bI rfl (fun h=> ?_) (fun h=> ?_))
 all_goals
  (first|refine aI ae (fun _=>0) J J ⟨J,trivial⟩ rfl fun w hm=>⟨?_,hm.below⟩|refine aI ae (fun _=>1) J J ⟨J,trivial⟩ rfl fun w hm=>⟨?_,hm.below⟩|refine aI ae (fun _=>2) J J ⟨J,trivial⟩ rfl fun w hm=>⟨?_,hm.below⟩)
 all_goals
  refine ot _ _ _ _ _ _ _ _ _ _ _ _ _ _ _ _ _ ?_
  clear htx hfd hm
  have hv:=fun h=>kn (s:=(⟨id,sd,sh,st,gt,se,ge,dn,c,tx,⟨wa,wb,wc⟩,⟨ra,rb,rc⟩⟩:bZ)) h
  have hsd:=fun h=>nb (s:=(⟨id,sd,sh,st,gt,se,ge,dn,c,tx,⟨wa,wb,wc⟩,⟨ra,rb,rc⟩⟩:bZ)) h
  have hw1:=fun h=>je (n:=st) h
  have hw2:=fun h=>je (n:=gt) h
  have hfu:=fun h=>lz (f:=(⟨fk,fs,fn,fd⟩:aS)) h
  have e1:IntKind.i64.wrap (3-1)=2:=by decide
  have e2:IntKind.i64.wrap (3-2)=1:=by decide
  by_cases hs1:sd=1
  · subst hs1
    have et:dr ⟨id,2,sh,gt,st,ge,se,dn,c,tx,⟨ra,rb,rc⟩,⟨wa,wb,wc⟩⟩=dr ⟨id,1,sh,st,gt,se,ge,dn,c,tx,⟨wa,wb,wc⟩,⟨ra,rb,rc⟩⟩:=by simp[dr,gU,kl,lI]
    simp only[e1,e2]at *
    unfold bu
    try unfold sF
    try unfold zg at *
    try unfold ve at *
    try unfold iJ
    try unfold dU
    try unfold dq
    try (generalize cA ⟨wa,wb,wc⟩ (aG fd)=r at *;obtain⟨⟨r1,r2,r3⟩,r4⟩:=r)
    try (generalize bM ⟨ra,rb,rc⟩ (aG fd)=r at *;obtain⟨⟨r1,r2,r3⟩,r4⟩:=r)
    try (generalize cy ⟨wa,wb,wc⟩ fn=r at *;obtain⟨⟨r1,r2,r3⟩,r4⟩:=r)
    first|grind|(rcases(show fk<2∨fk=2∨fk=3∨fk=4∨fk=5∨fk=6∨6<fk by omega)with hk|rfl|rfl|rfl|rfl|rfl|hk<;>first|grind|(clear hw1 hw2 hv hfu;grind (splits:=40))|(clear hw1 hw2 hv hfu;have n2:fk≠2:=(by omega);have n3:fk≠3:=(by omega);have n4:fk≠4:=(by omega);have n5:fk≠5:=(by omega);have n6:fk≠6:=(by omega);simp_all;done)|(clear hw1 hw2 hv hfu;simp_all;done)|(have d1:IntKind.i64.wrap (3-1)=2:=(by decide);have d2:IntKind.i64.wrap (3-2)=1:=(by decide);have d3:IntKind.i64.wrap 2=2:=(by decide);have d4:IntKind.i64.wrap 1=1:=(by decide);simp_all;grind)|(have d1:IntKind.i64.wrap (3-1)=2:=(by decide);have d2:IntKind.i64.wrap (3-2)=1:=(by decide);have d3:IntKind.i64.wrap 2=2:=(by decide);have d4:IntKind.i64.wrap 1=1:=(by decide);simp_all;grind))
  · by_cases hs2:sd=2
    · subst hs2
      have et:dr ⟨id,1,sh,gt,st,ge,se,dn,c,tx,⟨ra,rb,rc⟩,⟨wa,wb,wc⟩⟩=dr ⟨id,2,sh,st,gt,se,ge,dn,c,tx,⟨wa,wb,wc⟩,⟨ra,rb,rc⟩⟩:=by simp[dr,gU,kl,lI]
      simp only[e1,e2]at *
      unfold bu
      try unfold sF
      try unfold zg at *
      try unfold ve at *
      try unfold iJ
      try unfold dU
      try unfold dq
      try (generalize cA ⟨wa,wb,wc⟩ (aG fd)=r at *;obtain⟨⟨r1,r2,r3⟩,r4⟩:=r)
      try (generalize bM ⟨ra,rb,rc⟩ (aG fd)=r at *;obtain⟨⟨r1,r2,r3⟩,r4⟩:=r)
      try (generalize cy ⟨wa,wb,wc⟩ fn=r at *;obtain⟨⟨r1,r2,r3⟩,r4⟩:=r)
      first|grind|(rcases(show fk<2∨fk=2∨fk=3∨fk=4∨fk=5∨fk=6∨6<fk by omega)with hk|rfl|rfl|rfl|rfl|rfl|hk<;>first|grind|(clear hw1 hw2 hv hfu;grind (splits:=40))|(clear hw1 hw2 hv hfu;have n2:fk≠2:=(by omega);have n3:fk≠3:=(by omega);have n4:fk≠4:=(by omega);have n5:fk≠5:=(by omega);have n6:fk≠6:=(by omega);simp_all;done)|(clear hw1 hw2 hv hfu;simp_all;done)|(have d1:IntKind.i64.wrap (3-1)=2:=(by decide);have d2:IntKind.i64.wrap (3-2)=1:=(by decide);have d3:IntKind.i64.wrap 2=2:=(by decide);have d4:IntKind.i64.wrap 1=1:=(by decide);simp_all;grind)|(have d1:IntKind.i64.wrap (3-1)=2:=(by decide);have d2:IntKind.i64.wrap (3-2)=1:=(by decide);have d3:IntKind.i64.wrap 2=2:=(by decide);have d4:IntKind.i64.wrap 1=1:=(by decide);simp_all;grind))
    · have hbad:cY (⟨id,sd,sh,st,gt,se,ge,dn,c,tx,⟨wa,wb,wc⟩,⟨ra,rb,rc⟩⟩:bZ)=false:=by cases hh:cY (⟨id,sd,sh,st,gt,se,ge,dn,c,tx,⟨wa,wb,wc⟩,⟨ra,rb,rc⟩⟩:bZ)with|false=>rfl|true=>exact absurd (hsd hh) (by simp only;omega)
      unfold bu
      try unfold ve at *
      first|grind|(clear hw1 hw2 hv hfu;simp_all;done)
end Go.Proofs.YthiocbcokfondaaGreatDoor.Y
