import Derived.Test.YthiocbcokfondaaGreatDoorChecked
import Derived.WalkKit
import Derived.WalkSpells
import Derived.WalkLawsBesides
import Derived.Test.YthiocbcokfondaaGreatDoorJBunS
namespace Go.Proofs.YthiocbcokfondaaGreatDoor
section
open Go
structure bk where
 size:Int
 left:Int
 held:Int
def bi(w:bk):Bool:=decide (1≤w.size∧w.size≤1048576∧0≤w.left∧0≤w.held∧w.left≤1048576∧w.left+w.held≤1048576)
structure pf where
 win:bk
 err:Int
def cA(w:bk)(n:Int):pf:=if bi w=false∨n<0 then⟨w,1⟩else if w.left<n then⟨w,22⟩else⟨⟨w.size,w.left-n,w.held⟩,0⟩
def bM(w:bk)(n:Int):pf:=if bi w=false∨n<0 then⟨w,1⟩else if w.left<n then⟨w,22⟩else⟨⟨w.size,w.left-n,w.held+n⟩,0⟩
def cy(w:bk)(n:Int):pf:=if bi w=false∨n<1 then⟨w,1⟩else if 1048576-w.left-w.held<n then⟨w,6⟩else⟨⟨w.size,w.left+n,w.held⟩,0⟩
def gT(n:Int):pf:=if n<1∨1048576<n then⟨⟨0,0,0⟩,1⟩else⟨⟨n,n,0⟩,0⟩
end
section
open Go.RowKit
def FY(s:Int):Bool:=s==3||s==4
def Dr(s:Int):Bool:=s==2||s==4
def pr(s:Int):Bool:=decide (1≤s) &&decide (s≤4)
def c1(s:Int):Int:=if pr s then(if FY s then 0 else 1)else 0
def c2(s:Int):Int:=if pr s then(if FY s then -1 else 1)else 0
def c3(s:Int):Int:=if pr s then(if Dr s then 0 else 1)else 0
def c4(s:Int):Int:=if pr s then(if Dr s then -1 else 1)else 0
theorem ig{fn:Func}{a b c d:Tmp}(h:fn.results= #[.tmp a,.tmp b,.tmp c,.tmp d])(tmps:Array Value)(P:Program)(w:World):
 (results fn tmps).run P w= .ok (.tuple #[tmps.getD a undef,tmps.getD b undef,tmps.getD c undef,tmps.getD d undef]) w:=by
 simp[results,h]
theorem sg{s:Int}(h:pr s=true):s=1∨s=2∨s=3∨s=4:=by simp[pr]at h;omega
theorem Ds(s:Int)(w:World):Calls Tryz.prog 205 #[.int .i64 s] w fun e w'=>e= .returned (.bool (pr s))∧w=w':=by
 go_enter Tryz.func205,Tryz.ntmps205
 go_wp2
 all_goals (go_ret;exact⟨by simp[pr]<;>omega,rfl⟩)
theorem Bn(s:Int)(w:World):Calls Tryz.prog 148 #[.int .i64 s] w fun e w'=>e= .returned (.bool (pr s))∧w=w':=by
 go_enter Tryz.func148,Tryz.ntmps148
 go_wp2
 all_goals (go_ret;exact⟨by simp[pr]<;>omega,rfl⟩)
theorem counts(s:Int)(w:World):Calls Tryz.prog 184 #[.int .i64 s] w fun e w'=>e= .returned (.tuple #[.int .i64 (c1 s),.int .i64 (c2 s),.int .i64 (c3 s),.int .i64 (c4 s)])∧w=w':=by
 by_cases hs:pr s=true
 · rcases sg hs with rfl|rfl|rfl|rfl
   all_goals
    clear hs
    go_enter Tryz.func184,Tryz.ntmps184
    go_wp2
    refine bodyPost_ret (ig rfl _ _ _) rfl ⟨?_,rfl⟩
    simp[c1,c2,c3,c4,pr,FY,Dr]
 · have hn:pr s=false:=by simpa using hs
   clear hs
   go_enter Tryz.func184,Tryz.ntmps184
   go_wp2_with (go_at_call 205;refine(Ds _ _).mono ?_;rintro e w' ⟨rfl,rfl⟩)
   refine bodyPost_ret (ig rfl _ _ _) rfl ⟨?_,rfl⟩
   simp[c1,c2,c3,c4,hn]
theorem od(s:Int)(w:World):Calls Tryz.prog 151 #[.int .i64 s] w fun e w'=>e= .returned (.tuple #[.int .i64 (c1 s),.int .i64 (c2 s),.int .i64 (c3 s),.int .i64 (c4 s)])∧w=w':=by
 by_cases hs:pr s=true
 · rcases sg hs with rfl|rfl|rfl|rfl
   all_goals
    clear hs
    go_enter Tryz.func151,Tryz.ntmps151
    go_wp2
    refine bodyPost_ret (ig rfl _ _ _) rfl ⟨?_,rfl⟩
    simp[c1,c2,c3,c4,pr,FY,Dr]
 · have hn:pr s=false:=by simpa using hs
   clear hs
   go_enter Tryz.func151,Tryz.ntmps151
   go_wp2_with (go_at_call 148;refine(Bn _ _).mono ?_;rintro e w' ⟨rfl,rfl⟩)
   refine bodyPost_ret (ig rfl _ _ _) rfl ⟨?_,rfl⟩
   simp[c1,c2,c3,c4,hn]
end
section
open Go
structure bZ where
 id:Int
 side:Int
 shape:Int
 sent:Int
 got:Int
 se:Bool
 ge:Bool
 done:Bool
 code:Int
 text:ByteArray
 snd:bk
 rcv:bk
def kG(n:Int):Int:=if n<0 then 4611686018427387904 else n
def gU(s:bZ):Int:=if s.side=1 then s.sent else s.got
def kl(s:bZ):Int:=if s.side=1 then s.got else s.sent
def lI(s:bZ):Bool:=if s.side=1 then s.se else s.ge
def rB(s:bZ):Bool:=if s.side=1 then s.ge else s.se
def qj(s:bZ):Bool:=decide (1≤s.id∧s.id≤2147483647∧(s.side=1∨s.side=2)) &&pr s.shape
def qk(s:bZ):Bool:=bi s.snd&&bi s.rcv&&decide (0≤gU s∧gU s≤kG (c2 s.shape)∧0≤kl s∧kl s≤kG (c4 s.shape))
def xL(s:bZ):Bool:=if s.done=true then s.se&&s.ge&&decide (aP s.code s.text=0)else !rB s&& (!lI s||decide (c1 s.shape≤gU s)) &&decide (s.code=0) &&decide (s.text.size=0)
def cY(s:bZ):Bool:=qj s&&qk s&&xL s
def xM:bZ:=⟨0,0,0,0,0,false,false,false,0,⟨#[]⟩,⟨0,0,0⟩,⟨0,0,0⟩⟩
structure xN where
 st:bZ
 err:Int
def cU(id side shape size:Int):xN:=if id<1∨2147483647<id∨(side≠1∧side≠2)∨pr shape=false∨(gT size).err≠0 then⟨xM,1⟩
 else⟨⟨id,side,shape,0,0,false,false,false,0,⟨#[]⟩,(gT size).win,(gT size).win⟩,0⟩
def aG(d:ByteArray):Int:=if d.size<1 then 1 else d.size
def dq(s:bZ)(c:Int)(t:ByteArray):bZ:={s with se:=true,ge:=true,done:=true,code:=c,text:=t}
def dU(s:bZ)(f:aS):bZ:=if f.kind=5 then dq s f.num ⟨#[]⟩else dq s (bj f.data).code (bj f.data).text
def dr(s:bZ):Bool:=decide (gU s<c1 s.shape)||decide (kl s<c3 s.shape)||((s.shape==1||s.shape==3) && !lI s)
def iJ(s:bZ)(client:Bool):Int:=kG (if client=true then c2 s.shape else c4 s.shape)
def aZ(s:bZ)(f:aS):xN:=
 if cY s=false∨aA f≠0∨f.strm≠s.id then⟨s,1⟩
 else if f.kind=2 then
  if s.done=true∨s.se=true then⟨s,20⟩else if iJ s (s.side==1)≤s.sent then⟨s,11⟩else if s.snd.size<aG f.data then⟨s,3⟩
  else if(cA s.snd (aG f.data)).err≠0 then⟨s,(cA s.snd (aG f.data)).err⟩else⟨{s with sent:=s.sent+1,snd:=(cA s.snd (aG f.data)).win},0⟩
 else if f.kind=3 then
  if s.done=true∨s.se=true∨s.side≠1 then⟨s,20⟩else if s.sent<c1 s.shape then⟨s,11⟩else⟨{s with se:=true},0⟩
 else if f.kind=4 then
  if s.done=true∨s.side=1 then⟨s,20⟩else if(bj f.data).code=0∧dr s=true then⟨s,11⟩else⟨dU s f,0⟩
 else if f.kind=5 then(if s.done=true then⟨s,20⟩else⟨dU s f,0⟩)
 else⟨s,1⟩
def bu(s:bZ)(f:aS):xN:=
 if cY s=false∨aA f≠0∨f.strm≠s.id∨(f.kind<2∨6<f.kind)then⟨s,1⟩
 else if s.done=true then⟨s,0⟩
 else if f.kind=2 then
  if s.ge=true then⟨s,20⟩else if iJ s (s.side !=1)≤s.got then⟨s,11⟩else if s.rcv.size<aG f.data then⟨s,3⟩
  else if(bM s.rcv (aG f.data)).err≠0 then⟨s,(bM s.rcv (aG f.data)).err⟩else⟨{s with got:=s.got+1,rcv:=(bM s.rcv (aG f.data)).win},0⟩
 else if f.kind=3 then
  if s.ge=true∨s.side=1 then⟨s,20⟩else if s.got<c1 s.shape then⟨s,11⟩else⟨{s with ge:=true},0⟩
 else if f.kind=4 then
  if s.side≠1 then⟨s,20⟩else if(bj f.data).code=0∧dr s=true then⟨s,11⟩else⟨dU s f,0⟩
 else if f.kind=5 then⟨dU s f,0⟩
 else if(cy s.snd f.num).err≠0 then⟨s,(cy s.snd f.num).err⟩else⟨{s with snd:=(cy s.snd f.num).win},0⟩
def ml(s:bZ)(c:Int)(t:ByteArray):bZ:=if s.done=true∨cY s=false∨aP c t≠0 then s else dq s c t
end
end Go.Proofs.YthiocbcokfondaaGreatDoor
namespace Go.Proofs.YthiocbcokfondaaGreatDoor.Y
structure KR where
 st:bZ
 sv:ByteArray
 mt:ByteArray
 lt:Int
 ms:List (ByteArray×ByteArray)
 ib:List ByteArray
 ob:List aS
def KR.hd(k:KR):io:=⟨k.sv,k.mt,k.lt,k.ms⟩
structure NL where
 sd:Int
 nx:Int
 la:Int
 aw:Int
 sz:Int
 sw:bk
 rw:bk
 ks:List KR
 ou:List aS
 pg:List Int
 cl:Bool
def FZ:bk:=⟨0,0,0⟩
def Hg:NL:=⟨0,0,0,0,0,FZ,FZ,[],[],[],false⟩
def G2:KR:=⟨xM,emptyB,emptyB,0,[],[],[]⟩
def fG(sd sz:Int):NL×Int:=if(sd≠1∧sd≠2)∨(gT sz).err≠0 then(Hg,1)else(⟨sd,1,0,0,sz,(gT sz).win,(gT sz).win,[],[],[],false⟩,0)
def bX(id:Int):List KR→Nat→Option Nat
 | [],_=>none
 |k::r,i=>if k.st.id=id then some i else bX id r (i+1)
def iU(c:NL)(i:Nat):KR:=(c.ks[i]?).getD G2
def fi(c:NL)(i:Nat)(g:KR→KR):NL:={c with ks:=c.ks.set i (g (iU c i))}
def aT:List ByteArray→Int
 | []=>0
 |s::r=>aG s+aT r
def ba:List KR→Int
 | []=>0
 |k::r=>aT k.ib+ba r
def cP(l:List KR):Nat:=l.countP fun k=> !k.st.done
def yT(w:bk):Int:=if bi w=false∨w.held=0∨2 * w.held<w.size then 0 else w.held
def dD(w:bk)(u:Int):Int:=if u=0 then w.held else yT ⟨w.size,w.left,w.held-u⟩
def xO(w:bk)(n:Int):bk:=⟨w.size,w.left+n,w.held-n⟩
def gbC(c:NL):NL:=if c.cl=true∨dD c.rw (ba c.ks)≤0 then c else {c with rw:=xO c.rw (dD c.rw (ba c.ks)),ou:=c.ou++[⟨6,0,dD c.rw (ba c.ks),emptyB⟩]}
def rC(c:NL)(i:Nat):Int:=dD (iU c i).st.rcv (aT (iU c i).ib)
def gbK(c:NL)(i:Nat)(id:Int):NL:=if c.cl=true∨rC c i≤0 then c else {fi c i (fun k=>{k with st:={k.st with rcv:=xO k.st.rcv (rC c i)}})with ou:=c.ou++[⟨6,id,rC c i,emptyB⟩]}
def dE(k:KR):KR:=if k.st.done=true then {k with ob:=[]}else k
def bF(f:aS):Int:=if f.kind=2 then aG f.data else 0
structure FF where
 st:bZ
 w:bk
 ob:List aS
 ou:List aS
def js:List aS→bZ→bk→List aS→FF
 | [],s,w,o=>⟨s,w,[],o⟩
 |f::r,s,w,o=>
  if s.snd.left<bF f∨w.left<bF f then⟨s,w,f::r,o⟩
  else if(aZ s f).err≠0 then⟨s,w,f::r,o⟩
  else if(cA w (bF f)).err≠0 then⟨s,w,f::r,o⟩
  else if(aZ s f).st.done=true then⟨(aZ s f).st,(cA w (bF f)).win,[],o++[f]⟩
  else js r (aZ s f).st (cA w (bF f)).win (o++[f])
def yU(c:NL)(i:Nat):FF:=js (iU c i).ob (iU c i).st c.sw c.ou
def eW(c:NL)(i:Nat):NL:={fi c i (fun k=>{k with st:=(yU c i).st,ob:=(yU c i).ob})with sw:=(yU c i).w,ou:=(yU c i).ou}
def fA(s:bZ):bZ:={s with snd:=⟨s.snd.size,1048576,s.snd.held⟩}
def cQ:List aS→bZ→xN
 | [],s=>⟨fA s,0⟩
 |f::r,s=>if(aZ (fA s) f).err≠0 then⟨fA s,(aZ (fA s) f).err⟩else cQ r (aZ (fA s) f).st
def oQ(h:io):ByteArray:=⟨(fY h).bytes.toArray⟩
def fZ(c:NL)(h:io)(sh:Int):aS:=⟨1,c.nx,sh,oQ h⟩
def gV(c:NL)(h:io)(sh:Int):Int:=
 if c.sd≠1∨c.cl=true∨c.aw≠0 then 20 else if 64≤cP c.ks then 22 else if bG h≠0 then bG h
 else if aA (fZ c h sh) ≠0 then aA (fZ c h sh)else(cU c.nx 1 sh c.sz).err
def bN(c:NL)(h:io)(sh:Int):NL×Int×Int:=
 if gV c h sh≠0 then(c,0,gV c h sh)
 else({c with ks:=c.ks++[⟨(cU c.nx 1 sh c.sz).st,h.svc,h.mth,h.late,h.metas,[],[]⟩],ou:=c.ou++[fZ c h sh],la:=c.nx,nx:=c.nx+1},c.nx,0)
def fj(c:NL)(f:aS)(chk:Int):Int:=match bX f.strm c.ks 0 with
 |none=>10
 |some i=>if chk≠0 then chk else if(cQ (iU c i).ob (iU c i).st).err≠0 then(cQ (iU c i).ob (iU c i).st).err else(aZ (cQ (iU c i).ob (iU c i).st).st f).err
def bS(c:NL)(f:aS)(chk:Int):NL×Int:=
 if fj c f chk≠0 then(c,fj c f chk)else(eW (fi c ((bX f.strm c.ks 0).getD 0) (fun k=>{k with ob:=k.ob++[f]})) ((bX f.strm c.ks 0).getD 0),0)
def lN(c:NL)(msg:ByteArray):Int:=if 16384<msg.size∨c.sz<aG msg then 3 else 0
def jF(c:NL)(id:Int)(msg:ByteArray):NL×Int:=bS c ⟨2,id,0,msg⟩ (lN c msg)
def mT(c:NL)(id:Int):NL×Int:=bS c ⟨3,id,0,emptyB⟩ 0
def mU(c:NL)(id code:Int)(tx:ByteArray):NL×Int:=bS c ⟨4,id,0,fc code tx⟩ (aP code tx)
def lO(c:NL)(id code:Int):Int:=match bX id c.ks 0 with
 |none=>10
 |some i=>(aZ (iU c i).st ⟨5,id,code,emptyB⟩).err
def ga(c:NL)(id code:Int):NL×Int:=
 if lO c id code≠0 then(c,lO c id code)
 else({fi c ((bX id c.ks 0).getD 0) (fun k=>dE {k with st:=(aZ k.st ⟨5,id,code,emptyB⟩).st})with ou:=c.ou++[⟨5,id,code,emptyB⟩]},0)
def de(c:NL)(id:Int):NL×ByteArray×Bool:=match bX id c.ks 0 with
 |none=>(c,emptyB,false)
 |some i=>match (iU c i).ib with
  | []=>(c,emptyB,false)
  |s::r=>(gbC (if(iU c i).st.done=true then fi c i (fun k=>{k with ib:=r})else gbK (fi c i (fun k=>{k with ib:=r})) i id),s,true)
def kD(c:NL):NL×List aS:=({c with ou:=[]},c.ou)
def eE(c:NL)(n:Int):NL×Int:=if c.cl=true then(c,20)else if aA ⟨7,0,n,emptyB⟩ ≠0 then(c,aA ⟨7,0,n,emptyB⟩)else({c with ou:=c.ou++[⟨7,0,n,emptyB⟩]},0)
def iK(c:NL):NL:=if c.sd=2∧c.cl=false∧c.aw=0 then {c with ou:=c.ou++[⟨9,0,c.la,emptyB⟩],aw:=c.la+1}else c
def gv(above:Int)(k:KR):KR:=if k.st.done=false∧above<k.st.id then dE {k with st:=ml k.st 12 emptyB}else k
def oe(c:NL)(above:Int):NL:={c with ks:=c.ks.map (gv above)}
def iL(c:NL):NL:=oe {c with cl:=true,ou:=[]} 0
def mV(c:NL)(id:Int):KR×Bool:=match bX id c.ks 0 with
 |none=>(G2,false)
 |some i=>(iU c i,true)
def fH(c:NL)(id:Int):NL:=match bX id c.ks 0 with
 |none=>c
 |some i=>if(iU c i).st.done=false then c else gbC {c with ks:=c.ks.eraseIdx i}
def og(sd k:Int):Bool:=if sd=2 then k==4||k==9 else k==1||k==3
def gy(c:NL)(f:aS):Int:=
 if aA f≠0∨og c.sd f.kind=true then 1
 else if(f.kind=1)=(f.strm≤c.la)then 11
 else if f.kind=2∧c.rw.left<aG f.data then 22
 else if f.kind=6∧f.strm=0∧(cy c.sw f.num).err≠0 then 6 else 0
def gb(c:NL)(f:aS):NL:=
 if c.aw≠0∨64≤cP c.ks∨(cU f.strm 2 f.num c.sz).err≠0∨(bK f.data).err≠0 then {c with la:=f.strm,ou:=c.ou++[⟨5,f.strm,12,emptyB⟩]}
 else {c with la:=f.strm,ks:=c.ks++[⟨(cU f.strm 2 f.num c.sz).st,(bK f.data).head.svc,(bK f.data).head.mth,(bK f.data).head.late,(bK f.data).head.metas,[],[]⟩]}
def iV(k:KR):aS:=⟨5,k.st.id,11,emptyB⟩
def dL(c:NL)(i:Nat)(f:aS):NL:=
 if(bu (iU c i).st f).err≠0 then {fi c i (fun k=>dE (if(aZ k.st (iV k)).err=0 then {k with st:=(aZ k.st (iV k)).st}else k))with ou:=c.ou++[iV (iU c i)]}
 else fi c i (fun k=>dE {k with st:=(bu k.st f).st})
def oh(c:NL)(i:Nat)(f:aS):Bool:=decide ((bu (iU c i).st f).err=0) && !(iU c i).st.done
def dM(c:NL)(f:aS):NL:=if(bM c.rw (aG f.data)).err=0 then {c with rw:=(bM c.rw (aG f.data)).win}else c
def lP(c:NL)(f:aS):NL:=gbC (match bX f.strm c.ks 0 with
 |none=>dM c f
 |some i=>if oh (dM c f) i f=true then fi (dL (dM c f) i f) i (fun k=>{k with ib:=k.ib++[f.data]})else dL (dM c f) i f)
def eo(c:NL):Nat→Nat→NL
 |0,_=>c
 |n+1,i=>eo (eW c i) n (i+1)
def gf(c:NL)(f:aS):NL:=
 if f.strm=0 then eo (if(cy c.sw f.num).err=0 then {c with sw:=(cy c.sw f.num).win}else c) c.ks.length 0
 else match bX f.strm c.ks 0 with
  |none=>c
  |some i=>eW (dL c i f) i
def ii(c:NL)(f:aS):NL:=
 if f.kind=1 then gb c f else if f.kind=2 then lP c f
 else if f.kind=7 then {c with ou:=c.ou++[⟨8,0,f.num,emptyB⟩]}
 else if f.kind=8 then {c with pg:=(c.pg++[f.num]).drop (c.pg.length+1-16)}
 else if f.kind=9 then oe {c with aw:=if c.aw=0∨f.num+1<c.aw then f.num+1 else c.aw} f.num
 else gf c f
def ci(c:NL)(f:aS):NL×Int:=if c.cl=true then(c,20)else if gy c f≠0 then(iL c,gy c f)else(ii c f,0)
def fB(c:NL):List aS→Bool→bZ→Bool
 | [],_,_=>true
 |f::r,fst,s=>(f.kind==2||f.kind==3||f.kind==4) && !(fst&& (f.kind !=2||(decide (aG f.data≤s.snd.left) &&decide (aG f.data≤c.sw.left)))) &&fB c r false s
def callOk(c:NL)(k:KR):Bool:=
 cY k.st&&decide (k.st.side=c.sd) &&decide (k.st.snd.size=c.sz) &&decide (k.st.rcv.size=c.sz) &&decide (k.st.snd.held=0) &&decide (bG k.hd=0) &&k.ib.all (fun m=>decide (m.size≤16384)) &&
  (if k.st.done=true then decide (k.ob.length=0)else decide (aT k.ib≤k.st.rcv.held) &&decide ((cQ k.ob k.st).err=0) &&fB c k.ob true k.st)
def oR(c:NL):Bool:=(decide (c.sd=1)||decide (c.sd=2)) &&decide (1≤c.sz∧c.sz≤1048576) &&bi c.sw&&bi c.rw&&decide (c.sw.size=c.sz) &&decide (c.rw.size=c.sz) &&decide (c.sw.held=0) &&decide (0≤c.la∧c.la≤2147483647∧0≤c.aw∧c.aw≤2147483648) &&
 (if c.sd=2 then decide (c.nx=1) &&decide (c.aw≤c.la+1)else decide (c.nx=c.la+1))
def ascB:Option Int→List KR→Bool
 |_,[]=>true
 |p,k::r=>(match p with|none=>true|some x=>decide (x<k.st.id)) &&ascB (some k.st.id) r
end Go.Proofs.YthiocbcokfondaaGreatDoor.Y
