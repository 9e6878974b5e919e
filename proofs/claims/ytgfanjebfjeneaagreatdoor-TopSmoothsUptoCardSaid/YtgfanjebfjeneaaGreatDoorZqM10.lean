/-
 Looking back, plainly: triangles, and solving by them; a call that writes what it is lent and answers memory of its own.
-/
import Derived.Test.YtgfanjebfjeneaaGreatDoorZqM9
import Derived.Test.YtgfanjebfjeneaaGreatDoorZqM8
set_option linter.unusedVariables false
set_option linter.unusedSimpArgs false
namespace Go.Bn
open Go
section callY
variable {P:Program} {n:Nat} {ops:Array Oper} {Γ:D2} {ρ:DU} {δ:DK} {τ:List VR}
variable {d:Nat} {ty:TypeId} {pos:String} {af:Array Edge}
def oL(c0:EW)(ob:Bs)(pr:Value→Value)(R:Value→SP)(r':Value→Res)(e:Ending)(w':World):Prop:= ∃ v,∃ c':EW,∃ ob':Bs,e= .returned v∧w'=c'.w∧Tr c0 ob true c' ob'∧(R (pr v)).H v c'∧(r' (pr v)).H c' ob'
def xJ(P:Program)(f:Nat)(ps:List SP)(r:Res)(pr:Value→Value)(R:Value→SP)(r':Value→Res):Prop:=
 V9 P f∧ ∀ (vs:List Value) (c:EW) (ob:Bs),(∀ k,c.M k→k<c.w.heap.size)→FG c∧HL ps vs c→r.H c ob→(∀ b,ob b→c.M b)→Calls P f vs.toArray c.w (oL c ob pr R r')
theorem lq{f:Nat}{xs:List Operand}{ps:List SP}{pr:Value→Value}{R:Value→SP}{r:Res}{r':Value→Res}{ats:Array TypeId}(k:Nat)(hf:xJ P f ps r pr R r')(hx:Sf Γ δ ρ xs ps)(hk:nth τ k=some (.c r)):
  OpOK P n ops Γ ρ δ τ ⟨some d,.call ⟨.value (.func f),xs.toArray,ats⟩,ty,pos,af,none⟩ (.wr k) (.d [d] (fun g=>R (pr (g d))) (fun g g' h=>by rw[h d (AE.2 rfl)])) (.d [d] (fun g=>r' (pr (g d))) (fun g g' h=>by rw[h d (AE.2 rfl)])):=by
 intro a c ob hs hwf hfa hr hres hno hown
 obtain⟨r0,hr0,hh⟩:=hres k rfl
 rw[hk]at hr0
 cases hr0
 have hv:=hx.val (a:=a) (c:=c) fun x q hx' hq=>Lk.val (o:=⟨some d,.call ⟨.value (.func f),xs.toArray,ats⟩,ty,pos,af,none⟩) hr hfa (by simp[Op.operands,Call.operands,hx']) hq
 simp only[Region.wanted,if_true]
 unfold GP
 have hex:(execOp a.eval ⟨some d,.call ⟨.value (.func f),xs.toArray,ats⟩,ty,pos,af,none⟩).run P c.w= .ok (.enter f (xs.map a.eval).toArray) c.w:=by
  have h1:=EF hf.1 (xs.map a.eval).toArray c.w
  simp[execOp,resolve,Deferred.ofValue,Act.eval,invoke,h1]
 rw[hex]
 refine(hf.2 _ c ob hwf ⟨hfa.2,hv⟩ hh fun b hb=>(hown b hb).1).mono fun e w' ⟨v,c',ob',he,hw,ht,hR,hr'⟩=>⟨v,he,c',ob',hw.symm,ht,?_,fun _=>?_⟩
 ·simp only[VE.at,FK];exact hR
 simp only[VR.at,FK];exact hr'
theorem xJ.of{f:Nat}{fn:Func}{k:Code}{ps:List SP}{pr:Value→Value}{R:Value→SP}{r:Res}{r':Value→Res}(hf:P.funcs[f]? =some fn)(hb:fn.body=some k)(hn:(fn.name== "runtime.NumGoroutine")=false)(hl:Nat.ble ps.length fn.ntmps=true)
  (h: ∀ (c0:EW) (ob:Bs),r.H c0 ob→J ⟨P,fn.ntmps,c0,fun b=>ob b,[]⟩ [] (IX 0 ps) [r] k (bodyPost P fn (oL c0 ob pr R r'))):xJ P f ps r pr R r':=by
 refine⟨⟨fn,hf,hn,by rw[hb];rfl⟩,fun vs c ob hwf ⟨hg,hv⟩ hr hM=>?_⟩
 have hl':ps.length≤fn.ntmps:=A8 hl
 have hlen:=hv.len
 refine calls_of_wp hf hb (h c ob hr _ c ⟨?_,rfl,⟨fun v p hm=>(by cases hm),hg⟩,fun t p hp=>?_,fun k=>if k=0 then ob else Ix,?_,fun k r0 hr0=>?_⟩)
 ·simp;omega
 ·obtain⟨_,hp'⟩:=If hp
  rw[Nat.sub_zero]at hp'
  obtain⟨v,h1,h2⟩:=hv.nth t p hp'
  have ht:=(AU.1 h1).1
  have:vl {tmps:=vs.toArray++Array.replicate (fn.ntmps-vs.toArray.size) undef,defers:=[]} t=v:=by
   unfold vl
   simp only[Cd]
   rw[CE (by simpa using ht)]
   simp[h1]
  rw[this]
  exact h2
 ·refine⟨rfl,rfl,rfl,A5 _,fun _ _ _=>rfl,fun _ _=>⟨id,.inl⟩,hwf,fun k b hb=>?_,fun i j b hi hj=>?_,hwf⟩
  ·by_cases hk:k=0
   ·rw[if_pos hk]at hb;exact⟨hM b hb,.inr hb⟩
   rw[if_neg hk]at hb;cases hb
  by_cases hi0:i=0
  ·by_cases hj0:j=0
   ·rw[hi0,hj0]
   rw[if_neg hj0]at hj;cases hj
  rw[if_neg hi0]at hi;cases hi
 cases k with
 |zero=>simp only[nth,Ah]at hr0;subst hr0;simpa using hr
 |succ k=>simp[nth]at hr0
theorem ZT{σ:List Res}{fn:Func}{n:Nat}{c0:EW}{ob:Bs}{pr:Value→Value}{R:Value→SP}{r':Value→Res}{ps:List SP}{u:Value}(j:Nat)(hj:nth σ j=some (r' u))(hr:ox P Γ ρ σ fn.results.toList ps)(hpr: ∀ v c,(UH ps).H v c→pr v=u)(hR: ∀ v c,FH Γ c→(UH ps).H v c→(R u).H v c):
  JN ⟨P,n,c0,fun b=>ob b,[]⟩ Γ ρ σ (bodyPost P fn (oL c0 ob pr R r') .ret):=fun a c hs=>by
 obtain⟨vs,h1,h2⟩:=hr.run hs
 obtain⟨obs,hown,hres⟩:=hs.own
 have hrj:=hres j _ hj
 have ht:Tr c0 ob true c (obs j):=⟨hown.os,hown.tape,hown.out,hown.size,fun k hk hne=>hown.heap k hk (hne rfl),fun k hk=>⟨(hown.mem k hk).1,fun h=>by
  by_cases hm:c.M k
  ·exact .inl hm
  exact .inr ⟨rfl,((hown.mem k hk).2 h).resolve_left hm,fun h9=>hm (hown.has j k h9).1⟩⟩,.inr ⟨rfl,fun b hb=>(hown.has j b hb).2.elim (fun h=> .inr ⟨h,(hown.has j b hb).1⟩) .inl⟩,hown.wf⟩
 have hv: ∀ v,(UH ps).H v c→oL c0 ob pr R r' (.returned v) c.w:=fun v h=>⟨v,c,obs j,rfl,rfl,ht,by rw[hpr v c h];exact hR v c hs.facts h,by rw[hpr v c h];exact hrj⟩
 refine⟨hs.defers,_,IQ h1,hv _ ?_⟩
 match ps,vs,h2 with
 |[],[],h3=>exact⟨[],rfl,trivial⟩
 |[p],[v],h3=>exact h3.1
 |p::q::ps,v::u::vs,h3=>
  refine⟨v::u::vs,?_,h3⟩
  rw[dif_neg (by simp)]
 |[],_::_,h3=>exact h3.elim
 |_::_,[],h3=>exact h3.elim
 |[_],_::_::_,h3=>exact h3.2.elim
 |_::_::_,[_],h3=>exact h3.2.elim
end callY
theorem nV{q:SP}{qs:List SP}{u:Value}: ∀ v c,(UH (CW u::q::qs)).H v c→nU v=u:=fun v c ⟨vs,h1,h2⟩=>by
 match vs,h2 with
 |x::y::zs,⟨h3,_⟩=>
  have e:x=u:=h3.1
  subst h1
  simp[nU,e]
section sepop
variable {P:Program} {n:Nat} {ops:Array Oper} {Γ:D2} {ρ:DU} {δ:DK} {τ:List VR}
theorem Nf{τ:List VR}{k:Nat}{x y:VR}(h:nth τ k=some x):nth (PG τ k y) k=some y:=by
 have hk:k<τ.length:=by rw[Dq]at h;exact(AU.1 h).1
 rw[Dq,RY,BL hk]
theorem ZI{c c':EW}{ob o1 o2 o2':Bs}{w:Bool}(he: ∀ b,ob b↔o1 b∨o2 b)(hd: ∀ b,o1 b→o2 b→False)(hl: ∀ b,ob b→c.M b∧b<c.w.heap.size)(ht:Tr c o2 w c' o2'):
  Tr c ob w c' (fun b=>o1 b∨o2' b)∧(∀ b,o1 b→o2' b→False)∧ ∀ b,o1 b→c'.w.heap[b]? =c.w.heap[b]? :=by
 refine⟨⟨ht.os,ht.tape,ht.out,ht.size,fun k hk hn=>ht.heap k hk fun hw h=>hn hw ((he k).2 (.inr h)),fun k hk=>⟨(ht.mem k hk).1,fun h=>?_⟩,?_,ht.lt⟩,fun b h1 h2=>?_,fun b h1=>ht.heap b (hl b ((he b).2 (.inl h1))).2 fun _ h2=>hd b h1 h2⟩
 ·rcases(ht.mem k hk).2 h with h|⟨hw,h1,h2⟩
  ·exact .inl h
  exact .inr ⟨hw,(he k).2 (.inr h1),fun h3=>h3.elim (fun h3=>hd k h3 h1) h2⟩
 ·rcases ht.own with h|⟨hw,h⟩
  ·left
   funext b
   rw[h]
   exact propext (he b).symm
  exact .inr ⟨hw,fun b hb=>hb.elim (fun hb=> .inl ((he b).2 (.inl hb))) fun hb=>(h b hb).elim (fun hb=> .inl ((he b).2 (.inr hb))) .inr⟩
 rcases ht.own with h|⟨hw,h⟩
 ·rw[h]at h2;exact hd b h1 h2
 rcases h b h2 with h3|⟨h3,_⟩
 ·exact hd b h1 h3
 have:=(hl b ((he b).2 (.inl h1))).2;omega
theorem rb{o:Oper}{e:VE}{r1 r2 Lt:Res}(k:Nat)(hk:nth τ k=some (.c (r1.sep r2)))(h:OpOK P n ops Γ ρ δ (PG τ k (.c r2)) o (.wr k) e (.c Lt)):OpOK P n ops Γ ρ δ τ o (.wr k) e (.c (r1.sep Lt)):=by
 intro a c ob hs hwf hfa hr hres hno hown
 obtain⟨r0,hr0,hh⟩:=hres k rfl
 rw[hk]at hr0
 cases hr0
 obtain⟨o1,o2,he,hd,h1,h2⟩:=hh
 have h3:=h a c o2 hs hwf hfa hr (fun j hj=>by cases hj;exact⟨_,Nf hk,h2⟩) (fun e=>by cases e) fun b hb=>hown b ((he b).2 (.inr hb))
 by_cases hw:Region.wanted o (yielded ops a.tmps)=true
 ·rw[if_pos hw]at h3⊢
  refine h3.mono fun v w' ⟨c',ob',hc,ht,hv,hr'⟩=>?_
  obtain⟨t1,t2,t3⟩:=ZI he hd hown ht
  exact⟨c',_,hc,t1,hv,fun hw=>⟨o1,ob',fun _=>Iff.rfl,t2,r1.fr _ _ _ (ht.le fun b hb=>(hown b ((he b).2 (.inr hb))).1) t3 h1,hr' hw⟩⟩
 rw[if_neg hw]at h3⊢
 exact h3
theorem bN{o:Oper}{e:VE}{r1 DO r2:Res}(k:Nat)(hk:nth τ k=some (.c (r1.sep r2)))(h:OpOK P n ops Γ ρ δ (PG τ k (.c r1)) o (.wr k) e (.c DO)):OpOK P n ops Γ ρ δ τ o (.wr k) e (.c (DO.sep r2)):=by
 intro a c ob hs hwf hfa hr hres hno hown
 obtain⟨r0,hr0,hh⟩:=hres k rfl
 rw[hk]at hr0
 cases hr0
 obtain⟨o1,o2,he,hd,h1,h2⟩:=hh
 have he': ∀ b,ob b↔o2 b∨o1 b:=fun b=>(he b).trans Or.comm
 have h3:=h a c o1 hs hwf hfa hr (fun j hj=>by cases hj;exact⟨_,Nf hk,h1⟩) (fun e=>by cases e) fun b hb=>hown b ((he b).2 (.inl hb))
 by_cases hw:Region.wanted o (yielded ops a.tmps)=true
 ·rw[if_pos hw]at h3⊢
  refine h3.mono fun v w' ⟨c',ob',hc,ht,hv,hr'⟩=>?_
  obtain⟨t1,t2,t3⟩:=ZI he' (fun b x y=>hd b y x) hown ht
  exact⟨c',_,hc,t1,hv,fun hw=>⟨ob',o2,fun _=>Or.comm,fun b x y=>t2 b y x,hr' hw,r2.fr _ _ _ (ht.le fun b hb=>(hown b ((he b).2 (.inl hb))).1) t3 h2⟩⟩
 rw[if_neg hw]at h3⊢
 exact h3
theorem lB{o:Oper}{e:VE}{r':VR}{r1 r2:Res}(k:Nat)(hk:nth τ k=some (.c (r1.sep r2)))(h:OpOK P n ops Γ ρ δ (PG τ k (.c r2)) o (.rd k) e r'):OpOK P n ops Γ ρ δ τ o (.rd k) e r':=by
 intro a c ob hs hwf hfa hr hres hno hown
 obtain⟨r0,hr0,hh⟩:=hres k rfl
 rw[hk]at hr0
 cases hr0
 obtain⟨o1,o2,he,hd,h1,h2⟩:=hh
 have h3:=h a c o2 hs hwf hfa hr (fun j hj=>by cases hj;exact⟨_,Nf hk,h2⟩) (fun e=>by cases e) fun b hb=>hown b ((he b).2 (.inr hb))
 by_cases hw:Region.wanted o (yielded ops a.tmps)=true
 ·rw[if_pos hw]at h3⊢
  refine h3.mono fun v w' ⟨c',ob',hc,ht,hv,hr'⟩=>?_
  obtain⟨t1,t2,t3⟩:=ZI he hd hown ht
  exact⟨c',_,hc,t1,hv,fun hw=>by cases hw⟩
 rw[if_neg hw]at h3⊢
 exact h3
end sepop
def pC(n:Int)(a l:List Nat)(i j:Int):Nat→Nat
 |0=>mat n a i j
 |k+1=>MA (pC n a l i j k) (Ft (mat n l i k) (mat n l j k))
def pB(n:Int)(a l:List Nat)(i j:Int):Nat→Bool
 |0=>false
 |k+1=>(pB n a l i j k|| !DF (Ft (mat n l i k) (mat n l j k)))|| !DF (pC n a l i j (k+1))
def Y5(b:Bool)(d:Nat):Int:=if b=true then 5 else if Gp .gtr d 0=true then 0 else 90
def jz(b:Bool)(d:Nat):Nat:=if b=true then 0 else if Gp .gtr d 0=true then SW d else 0
def ck(n:Int)(a:List Nat)(j:Nat)(hd:Nat)(b:Bool)(l:List Nat):Nat→Bool×List Nat
 |0=>(b,l)
 |i+1=>
  let s:=ck n a j hd b l i
  if i≤j then s else((s.1||pB n a s.2 i j j)|| !DF (fdiv (pC n a s.2 i j j) hd),s.2.set ((i:Int)*n+j).toNat (fdiv (pC n a s.2 i j j) hd))
structure WK where
 b:Bool
 l:List Nat
 h:List Nat
 e:Int
def Pm(n:Int)(a:List Nat)(s:WK)(j:Nat):Bool:=s.b||pB n a s.l j j j
def V5(n:Int)(a:List Nat)(s:WK)(j:Nat):Nat:=pC n a s.l j j j
def u5(n:Int)(a:List Nat)(s:WK)(j:Nat):Bool×List Nat:=ck n a j (jz (Pm n a s j) (V5 n a s j)) (Pm n a s j) s.l n.toNat
def Gh(n:Int)(a:List Nat):Nat→WK
 |0=>⟨false,List.replicate (n*n).toNat 0,[],0⟩
 |j+1=>
  let s:=Gh n a j
  if s.e≠0 then s else if Y5 (Pm n a s j) (V5 n a s j)≠0 then⟨Pm n a s j,s.l,s.h,Y5 (Pm n a s j) (V5 n a s j)⟩
  else⟨(u5 n a s j).1,(u5 n a s j).2,s.h++ [jz (Pm n a s j) (V5 n a s j)],0⟩
theorem V6{n:Int}{a:List Nat}{j:Nat}(h:(Gh n a j).e=0)(h2:Y5 (Pm n a (Gh n a j) j) (V5 n a (Gh n a j) j)≠0):Gh n a (j+1)=⟨Pm n a (Gh n a j) j,(Gh n a j).l,(Gh n a j).h,Y5 (Pm n a (Gh n a j) j) (V5 n a (Gh n a j) j)⟩:=by
 show(if(Gh n a j).e≠0 then _ else _)=_
 rw[if_neg (by omega),if_pos h2]
theorem M1{n:Int}{a:List Nat}{j:Nat}(h:(Gh n a j).e=0)(h2:Y5 (Pm n a (Gh n a j) j) (V5 n a (Gh n a j) j)=0):Gh n a (j+1)=⟨(u5 n a (Gh n a j) j).1,(u5 n a (Gh n a j) j).2,(Gh n a j).h++ [jz (Pm n a (Gh n a j) j) (V5 n a (Gh n a j) j)],0⟩:=by
 show(if(Gh n a j).e≠0 then _ else _)=_
 rw[if_neg (by omega),if_neg (by omega)]
theorem Sa{n:Int}{a:List Nat}{j:Nat}(h:(Gh n a j).e≠0): ∀ m,j≤m→Gh n a m=Gh n a j
 |0,hm=>by rw[show j=0 by omega]
 |m+1,hm=>by
  by_cases e:j=m+1
  ·rw[e]
  have ih:=Sa h m (by omega)
  show(if(Gh n a m).e≠0 then Gh n a m else _)=_
  rw[ih,if_pos h]
theorem Qk{n:Int}{a:List Nat}{j hd:Nat}{b:Bool}{l:List Nat}: ∀ i,(ck n a j hd b l i).2.length=l.length
 |0=>rfl
 |i+1=>by
  show(if i≤j then _ else _:Bool×List Nat).2.length=_
  split
  ·exact Qk i
  rw[Aa];exact Qk i
theorem UL{n:Int}{a:List Nat}{j hd i:Nat}{b:Bool}{l:List Nat}(h:i≤j):ck n a j hd b l (i+1)=ck n a j hd b l i:=if_pos h
theorem UK{n:Int}{a:List Nat}{j hd i:Nat}{b:Bool}{l:List Nat}(h: ¬i≤j):ck n a j hd b l (i+1)=(((ck n a j hd b l i).1||pB n a (ck n a j hd b l i).2 i j j)|| !DF (fdiv (pC n a (ck n a j hd b l i).2 i j j) hd),(ck n a j hd b l i).2.set ((i:Int)*n+j).toNat (fdiv (pC n a (ck n a j hd b l i).2 i j j) hd)):=if_neg h
theorem My{n:Int}{a:List Nat}: ∀ j,(Gh n a j).l.length=(n*n).toNat
 |0=>Am
 |j+1=>by
  show(if(Gh n a j).e≠0 then Gh n a j else if Y5 (Pm n a (Gh n a j) j) (V5 n a (Gh n a j) j)≠0 then⟨Pm n a (Gh n a j) j,(Gh n a j).l,(Gh n a j).h,Y5 (Pm n a (Gh n a j) j) (V5 n a (Gh n a j) j)⟩else⟨(u5 n a (Gh n a j) j).1,(u5 n a (Gh n a j) j).2,(Gh n a j).h++ [jz (Pm n a (Gh n a j) j) (V5 n a (Gh n a j) j)],0⟩:WK).l.length=_
  split
  ·exact My j
  split
  ·exact My j
  show(ck _ _ _ _ _ _ _).2.length=_
  rw[Qk];exact My j
theorem ZN{n:Int}{a:List Nat}: ∀ j,(Gh n a j).e=0→(Gh n a j).h.length=j
 |0,_=>rfl
 |j+1,h=>by
  by_cases h1:(Gh n a j).e=0
  ·by_cases h2:Y5 (Pm n a (Gh n a j) j) (V5 n a (Gh n a j) j)=0
   ·rw[M1 h1 h2]
    show((Gh n a j).h++ [_]).length=_
    rw[As,ZN j h1];rfl
   rw[V6 h1 h2]at h
   exact absurd h h2
  rw[Sa h1 (j+1) (by omega)]at h
  exact absurd h h1
def Ki(n:Int)(a:List Nat):WK:=Gh n a n.toNat
def wkL(s:WK):List Nat:=if s.e=0 then s.l else []
theorem Qr{n:Int}{a:List Nat}{j:Nat}(h:(Gh n a j).e=0)(h2:Y5 (Pm n a (Gh n a j) j) (V5 n a (Gh n a j) j)≠0)(hj:j<n.toNat):Ki n a=⟨Pm n a (Gh n a j) j,(Gh n a j).l,(Gh n a j).h,Y5 (Pm n a (Gh n a j) j) (V5 n a (Gh n a j) j)⟩:=by
 unfold Ki
 rw[Sa (j:=j+1) (by rw[V6 h h2];exact h2) n.toNat (by omega),V6 h h2]
theorem S9{n:Int}{a:List Nat}{j:Nat}(hj:j=n.toNat):Ki n a=Gh n a j:=by rw[hj];rfl
theorem sS{s:WK}(h:s.e≠0):wkL s=[]:=if_neg h
theorem oe{s:WK}(h:s.e=0):wkL s=s.l:=if_pos h
theorem my{Γ:D2}{u:Value}{h h':List Nat}{p:SP}{e e':Int}(hh:h=h')(he:e=e'):Sb Γ (EP [CW u,Dp h,p,I6 e]) (EP [CW u,Dp h',Ge,I6 e']):=by
 subst hh;subst he
 rintro v c hf ⟨vs,h1,h2⟩
 match vs,h2 with
 |[a,b,d,f],⟨g1,g2,g3,g4,g5⟩=>exact⟨[a,b,d,f],h1,g1,g2,trivial,g4,g5⟩
theorem Zi{Γ:D2}{p q:SP}:Sb Γ (EP [p,q]) (EP [Ge,q]):=by
 rintro v c hf ⟨vs,h1,h2⟩
 match vs,h2 with
 |[a,b],⟨g1,g2,g3⟩=>exact⟨[a,b],h1,trivial,g2,g3⟩
def VH(r c:Int)(a:List Nat):Int:=if Gs r c a≠0 then Gs r c a else if r=c then 0 else 3
theorem ye{r c:Int}{a:List Nat}(h:VH r c a=0):Gs r c a=0∧r=c:=by
 unfold VH at h
 split at h
 ·rename_i h1;exact absurd h h1
 rename_i h1
 split at h
 ·rename_i h2;exact⟨Aj h1,h2⟩
 cases h
def dE(r c:Int)(a:List Nat):Int:=if VH r c a≠0 then VH r c a else if Gw r c a=true then 0 else 91
theorem tf{r c:Int}{a:List Nat}(h:dE r c a=0):Gs r c a=0∧r=c:=by
 unfold dE at h
 split at h
 ·rename_i h1;exact absurd h h1
 rename_i h1;exact ye (Aj h1)
def wY(n:Int)(l h:List Nat):Nat→List Nat
 |0=>l
 |k+1=>(wY n l h k).set ((k:Int)*n+k).toNat (h.getD k 0)
theorem TN{n:Int}{l h:List Nat}: ∀ k,(wY n l h k).length=l.length
 |0=>rfl
 |k+1=>by
  show((wY n l h k).set _ _).length=_
  rw[Aa];exact TN k
def SL(r c:Int)(a:List Nat):Int:=if dE r c a≠0 then dE r c a else if(Ki r a).e≠0 then(Ki r a).e else if(Ki r a).b=true then 5 else 0
def NF(r:Int)(a:List Nat):List Nat:=wY r (Ki r a).l (Ki r a).h (Ki r a).h.length
structure xN where
 r:Int
 c:Int
 a:List Nat
def mx3(m:xN):SP:=DL [I6 m.r,I6 m.c,Dp m.a]
def chM(r c:Int)(a:List Nat):xN:=if SL r c a=0 then⟨r,r,NF r a⟩else⟨0,0,[]⟩
def wh(m:xN)(e:Int):SP:=EP [mx3 m,Ge,I6 e]
theorem MK{Γ:D2}{r c:Int}{a:List Nat}{p:SP}{e e':Int}{m:xN}(hm:m=⟨r,c,a⟩)(he:e'=e):Sb Γ (EP [DL [I6 r,I6 c,Dp a],p,I6 e]) (wh m e'):=by
 subst hm;subst he
 rintro v c hf ⟨vs,h1,h2⟩
 match vs,h2 with
 |[a,b,d],⟨g1,g2,g3,g4⟩=>exact⟨[a,b,d],h1,g1,trivial,g3,g4⟩
theorem y9{r c:Int}{a:List Nat}(h:SL r c a=0):Gs r c a=0∧r=c∧(Ki r a).e=0∧(Ki r a).b=false:=by
 unfold SL at h
 split at h
 ·rename_i h1;exact absurd h h1
 rename_i h1
 split at h
 ·rename_i h2;exact absurd h h2
 rename_i h2
 split at h
 ·cases h
 rename_i h3
 obtain⟨g1,g2⟩:=tf (Aj h1)
 exact⟨g1,g2,Aj h2,by simpa using h3⟩
theorem td{r c:Int}{a:List Nat}(h:dE r c a≠0):SL r c a=dE r c a:=if_pos h
theorem ya{r c:Int}{a:List Nat}(h:dE r c a=0)(h2:(Ki r a).e≠0):SL r c a=(Ki r a).e:=by unfold SL;rw[if_neg (by omega),if_pos h2]
theorem yb{r c:Int}{a:List Nat}(h:dE r c a=0)(h2:(Ki r a).e=0)(h3:(Ki r a).b=true):SL r c a=5:=by unfold SL;rw[if_neg (by omega),if_neg (by omega),if_pos h3]
theorem yc{r c:Int}{a:List Nat}(h:dE r c a=0)(h2:(Ki r a).e=0)(h3:(Ki r a).b=false):SL r c a=0:=by unfold SL;rw[if_neg (by omega),if_neg (by omega),h3];rfl
theorem Yu{r c:Int}{a:List Nat}{e:Int}(h:SL r c a=e)(he:e≠0):chM r c a=⟨0,0,[]⟩:=if_neg (by rw[h];exact he)
theorem iP{r c:Int}{a:List Nat}(h:SL r c a=0):chM r c a=⟨r,r,NF r a⟩:=if_pos h
theorem iO{r:Int}{a:List Nat}(hg:Fc r r a):Fc r r (NF r a):=by
 refine⟨hg.1,?_⟩
 unfold NF
 rw[TN]
 unfold Ki
 rw[My]
 have:=hg.1.mul
 omega
def sdT(n:Int)(l b x:List Nat)(i:Nat):Nat→Nat
 |0=>b.getD i 0
 |k+1=>MA (sdT n l b x i k) (Ft (mat n l i k) (x.getD k 0))
def sdO(n:Int)(l b x:List Nat)(i:Nat):Nat→Bool
 |0=>false
 |k+1=>(sdO n l b x i k|| !DF (Ft (mat n l i k) (x.getD k 0)))|| !DF (sdT n l b x i (k+1))
def Ss(n:Int)(l b:List Nat):Nat→Bool×List Nat
 |0=>(false,List.replicate b.length 0)
 |i+1=>(((Ss n l b i).1||sdO n l b (Ss n l b i).2 i i)|| !DF (fdiv (sdT n l b (Ss n l b i).2 i i) (mat n l i i)),(Ss n l b i).2.set i (fdiv (sdT n l b (Ss n l b i).2 i i) (mat n l i i)))
theorem Qo{n:Int}{l b:List Nat}: ∀ i,(Ss n l b i).2.length=b.length
 |0=>Am
 |i+1=>by
  show((Ss n l b i).2.set _ _).length=_
  rw[Aa];exact Qo i
def suT(n:Int)(l b x:List Nat)(i:Nat):Nat→Nat
 |0=>b.getD i 0
 |k+1=>MA (suT n l b x i k) (Ft (mat n l ((i+1+k:Nat):Int) i) (x.getD (i+1+k) 0))
def suO(n:Int)(l b x:List Nat)(i:Nat):Nat→Bool
 |0=>false
 |k+1=>(suO n l b x i k|| !DF (Ft (mat n l ((i+1+k:Nat):Int) i) (x.getD (i+1+k) 0)))|| !DF (suT n l b x i (k+1))
def Su(n:Int)(l b:List Nat):Nat→Bool×List Nat
 |0=>(false,List.replicate b.length 0)
 |q+1=>(((Su n l b q).1||suO n l b (Su n l b q).2 (b.length-1-q) q)|| !DF (fdiv (suT n l b (Su n l b q).2 (b.length-1-q) q) (mat n l ((b.length-1-q:Nat):Int) ((b.length-1-q:Nat):Int))),(Su n l b q).2.set (b.length-1-q) (fdiv (suT n l b (Su n l b q).2 (b.length-1-q) q) (mat n l ((b.length-1-q:Nat):Int) ((b.length-1-q:Nat):Int))))
theorem V0{n:Int}{l b:List Nat}: ∀ i,(Su n l b i).2.length=b.length
 |0=>Am
 |i+1=>by
  show((Su n l b i).2.set _ _).length=_
  rw[Aa];exact V0 i
def smD(l:List Nat)(r c:Int)(b:List Nat)(j:Nat):Bool×List Nat:=Ss r l (Gn r c b (j:Int)) (Gn r c b (j:Int)).length
def oD(l:List Nat)(r c:Int)(b:List Nat)(j:Nat):Bool×List Nat:=Su r l (smD l r c b j).2 (smD l r c b j).2.length
theorem sd{l:List Nat}{r c:Int}{b:List Nat}{j:Nat}:(oD l r c b j).2.length=r.toNat:=by
 unfold oD
 rw[V0]
 unfold smD
 rw[Qo,Fj]
def x7(c:Int)(u:List Nat)(j:Nat)(o:List Nat):Nat→List Nat
 |0=>o
 |i+1=>(x7 c u j o i).set ((i:Int)*c+j).toNat (u.getD i 0)
theorem UQ{c:Int}{u o:List Nat}{j:Nat}: ∀ i,(x7 c u j o i).length=o.length
 |0=>rfl
 |i+1=>by
  show((x7 c u j o i).set _ _).length=_
  rw[Aa];exact UQ i
def Zu(l:List Nat)(r c:Int)(b:List Nat):Nat→Bool×List Nat
 |0=>(false,List.replicate b.length 0)
 |j+1=>(((Zu l r c b j).1||(smD l r c b j).1)||(oD l r c b j).1,x7 c (oD l r c b j).2 j (Zu l r c b j).2 (oD l r c b j).2.length)
theorem cB{l:List Nat}{r c:Int}{b:List Nat}: ∀ j,(Zu l r c b j).2.length=b.length
 |0=>Am
 |j+1=>by
  show(x7 _ _ _ _ _).length=_
  rw[UQ];exact cB j
def PT(r c:Int)(a:List Nat)(r2 c2:Int)(b:List Nat):Int:=
 if VH r c a≠0 then VH r c a else if Gs r2 c2 b≠0 then Gs r2 c2 b else if r2≠r then 3 else if SL r c a≠0 then SL r c a else if(Zu (NF r a) r2 c2 b c2.toNat).1=true then 5 else 0
def s7(r c:Int)(a:List Nat)(r2 c2:Int)(b:List Nat):xN:=if PT r c a r2 c2 b=0 then⟨r2,c2,(Zu (NF r a) r2 c2 b c2.toNat).2⟩else⟨0,0,[]⟩
theorem tR{r c:Int}{a:List Nat}{r2 c2:Int}{b:List Nat}(h:VH r c a≠0):PT r c a r2 c2 b=VH r c a:=if_pos h
theorem a0a{r c:Int}{a:List Nat}{r2 c2:Int}{b:List Nat}(h:VH r c a=0)(h2:Gs r2 c2 b≠0):PT r c a r2 c2 b=Gs r2 c2 b:=by unfold PT;rw[if_neg (by omega),if_pos h2]
theorem a0b{r c:Int}{a:List Nat}{r2 c2:Int}{b:List Nat}(h:VH r c a=0)(h2:Gs r2 c2 b=0)(h3:r2≠r):PT r c a r2 c2 b=3:=by unfold PT;rw[if_neg (by omega),if_neg (by omega),if_pos h3]
theorem a0c{r c:Int}{a:List Nat}{r2 c2:Int}{b:List Nat}(h:VH r c a=0)(h2:Gs r2 c2 b=0)(h3:r2=r)(h4:SL r c a≠0):PT r c a r2 c2 b=SL r c a:=by unfold PT;rw[if_neg (by omega),if_neg (by omega),if_neg (by omega),if_pos h4]
theorem a0d{r c:Int}{a:List Nat}{r2 c2:Int}{b:List Nat}(h:VH r c a=0)(h2:Gs r2 c2 b=0)(h3:r2=r)(h4:SL r c a=0)(h5:(Zu (NF r a) r2 c2 b c2.toNat).1=true):PT r c a r2 c2 b=5:=by unfold PT;rw[if_neg (by omega),if_neg (by omega),if_neg (by omega),if_neg (by omega),if_pos h5]
theorem a0e{r c:Int}{a:List Nat}{r2 c2:Int}{b:List Nat}(h:VH r c a=0)(h2:Gs r2 c2 b=0)(h3:r2=r)(h4:SL r c a=0)(h5:(Zu (NF r a) r2 c2 b c2.toNat).1=false):PT r c a r2 c2 b=0:=by unfold PT;rw[if_neg (by omega),if_neg (by omega),if_neg (by omega),if_neg (by omega),h5];rfl
theorem S2{r c:Int}{a:List Nat}{r2 c2:Int}{b:List Nat}{e:Int}(h:PT r c a r2 c2 b=e)(he:e≠0):s7 r c a r2 c2 b=⟨0,0,[]⟩:=if_neg (by rw[h];exact he)
theorem tQ{r c:Int}{a:List Nat}{r2 c2:Int}{b:List Nat}(h:PT r c a r2 c2 b=0):s7 r c a r2 c2 b=⟨r2,c2,(Zu (NF r a) r2 c2 b c2.toNat).2⟩:=if_pos h
structure Hm where
 r:Int
 c:Int
 f:List Nat
 p:I5
 q:I5
def Nw(k:Hm):List SP:=[I6 k.r,I6 k.c,Dp k.f,Dp k.p.x,I6 k.p.r,I6 k.p.c,Dp k.p.a,Dp k.q.x,I6 k.q.r,I6 k.q.c,Dp k.q.a]
def Hg:Hm:=⟨0,0,[],Ny,Ny⟩
theorem JX(k:Hm):(Nw k).length=11:=rfl
noncomputable def YT (k:Hm) (n:Int):Int:=
 if Gs k.r k.c k.f≠0 then Gs k.r k.c k.f else if k.r≠k.c then 3 else if HK k.p≠0 then HK k.p else if HK k.q≠0 then HK k.q
 else if((k.p.x.length:Int)≠k.r∨(k.q.x.length:Int)≠k.r)∨(0≤n∧k.r≠n)then 190 else 0
structure gZ(k:Hm)(n:Int):Prop where
 hk:Gs k.r k.r k.f=0
 hc:k.c=k.r
 hp:KOk k.p
 hq:KOk k.q
 pl:(k.p.x.length:Int)=k.r
 ql:(k.q.x.length:Int)=k.r
 hn:0≤n→k.r=n
theorem z3{k:Hm}{n:Int}(h:YT k n=0):gZ k n:=by
 unfold YT at h
 split at h
 ·rename_i h1;exact absurd h h1
 rename_i h1
 split at h
 ·cases h
 rename_i h2
 split at h
 ·rename_i h3;exact absurd h h3
 rename_i h3
 split at h
 ·rename_i h4;exact absurd h h4
 rename_i h4
 split at h
 ·cases h
 rename_i h5
 have h1':Gs k.r k.c k.f=0:=Aj h1
 have h2':k.r=k.c:=Aj h2
 rw[←h2']at h1'
 exact⟨h1',h2'.symm,J1.1 (Aj h3),J1.1 (Aj h4),by omega,by omega,by omega⟩
def qP(l:List Hm)(k:Nat):Int:=if k=0 then -1 else(l.getD (k-1) Hg).r
noncomputable def Y7 (l:List Hm):Nat→Int
 |0=>0
 |k+1=>if Y7 l k≠0 then Y7 l k else YT (l.getD k Hg) (qP l k)
theorem NY{l:List Hm}{k:Nat}(h:Y7 l k=0):Y7 l (k+1)=YT (l.getD k Hg) (qP l k):=if_neg (by omega)
theorem Rt{l:List Hm}{k:Nat}(h:Y7 l k≠0): ∀ m,k≤m→Y7 l m=Y7 l k
 |0,hm=>by rw[show k=0 by omega]
 |m+1,hm=>by
  by_cases e:k=m+1
  ·rw[e]
  have ih:=Rt h m (by omega)
  show(if Y7 l m≠0 then Y7 l m else _)=_
  rw[ih,if_pos h]
theorem qB{l:List Hm}{k m:Nat}{e:Int}(h:Y7 l k=0)(h2:YT (l.getD k Hg) (qP l k)=e)(he:e≠0)(hm:k<m):Y7 l m=e:=by
 have h3:=NY h
 rw[h2]at h3
 rw[Rt (k:=k+1) (by rw[h3];exact he) m (by omega),h3]
theorem ky{l:List Hm}: ∀ {m:Nat},Y7 l m=0→ ∀ i,i<m→gZ (l.getD i Hg) (qP l i)
 |0,_,i,hi=>absurd hi (Bl i)
 |m+1,h,i,hi=>by
  by_cases h1:Y7 l m=0
  ·by_cases e:i=m
   ·subst e
    rw[NY h1]at h
    exact z3 h
   exact ky h1 i (by omega)
  rw[Rt h1 (m+1) (by omega)]at h
  exact absurd h h1
noncomputable def Vb (l:List Hm):Int:=if 256<l.length then 2 else Y7 l l.length
structure TC(l:List Hm)(n:Int):Prop where
 at': ∀ i,i<l.length→(l.getD i Hg).r=n∧gZ (l.getD i Hg) n
 m:l.length≤256
theorem bm{l:List Hm}(h:Vb l=0):TC l (l.getD 0 Hg).r:=by
 unfold Vb at h
 split at h
 ·cases h
 rename_i h0
 have ha:=ky h
 have hd: ∀ i,i<l.length→(l.getD i Hg).r=(l.getD 0 Hg).r:=by
  intro i
  induction i with
  |zero=>intro _;rfl
  |succ i ih=>
   intro hi
   have h1:=ih (by omega)
   have h2:=(ha (i+1) hi).hn
   have h3:qP l (i+1)=(l.getD i Hg).r:=by unfold qP;rw[if_neg (by omega)];rfl
   rw[h3]at h2
   rw[←h1]
   exact h2 (Eg (ha i (by omega)).hk).1.1
 refine⟨fun i hi=>⟨hd i hi,?_⟩,by omega⟩
 have:=ha i hi
 exact⟨this.hk,this.hc,this.hp,this.hq,this.pl,this.ql,fun _=>hd i hi⟩
theorem gZ.cells{k:Hm}{n:Int}(h:gZ k n)(hr:k.r=n):Nw k=[I6 n,I6 n,Dp k.f,Dp k.p.x,I6 n,I6 n,Dp k.p.a,Dp k.q.x,I6 n,I6 n,Dp k.q.a]:=by
 have h1:=h.hc;have h2:=h.hp.c;have h3:=h.hq.c;have h4:=h.hp.x;have h5:=h.hq.x;have h6:=h.pl;have h7:=h.ql
 have e1:k.p.r=n:=by omega
 have e2:k.q.r=n:=by omega
 unfold Nw
 rw[h1,h2,h3,e1,e2,hr]
def tG(e:Int):SP:=EP [Ge,I6 e]
theorem Zh{Γ:D2}{p:SP}{e e':Int}(he:e'=e):Sb Γ (EP [p,I6 e]) (tG e'):=by subst he;exact Zi
structure Y4 where
 s:I5
 k:Bool
def KM(x:Y4):List SP:=[Dp x.s.x,I6 x.s.r,I6 x.s.c,Dp x.s.a,CW (.bool x.k)]
def FS:Y4:=⟨Ny,false⟩
theorem HU(x:Y4):(KM x).length=5:=rfl
def vj(e:Int):Int:=if e=90 then 191 else e
def Q9(n:Int)(f pa da:List Nat):MR:=
 if(F5 n n f n n pa).e≠0 then QH (F5 n n f n n pa).e
 else if vj (PT n n da (F5 n n f n n pa).r (F5 n n f n n pa).c (F5 n n f n n pa).a)≠0 then QH (vj (PT n n da (F5 n n f n n pa).r (F5 n n f n n pa).c (F5 n n f n n pa).a))
 else tY (s7 n n da (F5 n n f n n pa).r (F5 n n f n n pa).c (F5 n n f n n pa).a).r (s7 n n da (F5 n n f n n pa).r (F5 n n f n n pa).c (F5 n n f n n pa).a).c (s7 n n da (F5 n n f n n pa).r (F5 n n f n n pa).c (F5 n n f n n pa).a).a
theorem yp{n:Int}{f pa da:List Nat}(h:(F5 n n f n n pa).e≠0):Q9 n f pa da=QH (F5 n n f n n pa).e:=if_pos h
theorem yq{n:Int}{f pa da:List Nat}(h:(F5 n n f n n pa).e=0)(h2:PT n n da (F5 n n f n n pa).r (F5 n n f n n pa).c (F5 n n f n n pa).a=90):Q9 n f pa da=QH 191:=by
 unfold Q9 vj
 rw[if_neg (by omega),if_pos h2,if_pos (by decide)]
theorem yr{n:Int}{f pa da:List Nat}(h:(F5 n n f n n pa).e=0)(h2:PT n n da (F5 n n f n n pa).r (F5 n n f n n pa).c (F5 n n f n n pa).a≠90)(h3:PT n n da (F5 n n f n n pa).r (F5 n n f n n pa).c (F5 n n f n n pa).a≠0):Q9 n f pa da=QH (PT n n da (F5 n n f n n pa).r (F5 n n f n n pa).c (F5 n n f n n pa).a):=by
 unfold Q9 vj
 rw[if_neg (by omega),if_neg h2,if_pos h3]
theorem yt{n:Int}{f pa da:List Nat}(h:(F5 n n f n n pa).e=0)(h3:PT n n da (F5 n n f n n pa).r (F5 n n f n n pa).c (F5 n n f n n pa).a=0):Q9 n f pa da=tY (s7 n n da (F5 n n f n n pa).r (F5 n n f n n pa).c (F5 n n f n n pa).a).r (s7 n n da (F5 n n f n n pa).r (F5 n n f n n pa).c (F5 n n f n n pa).a).c (s7 n n da (F5 n n f n n pa).r (F5 n n f n n pa).c (F5 n n f n n pa).a).a:=by
 have he:vj (PT n n da (F5 n n f n n pa).r (F5 n n f n n pa).c (F5 n n f n n pa).a)=0:=by unfold vj;rw[h3];rfl
 unfold Q9
 rw[if_neg (by omega),if_neg (by omega)]
theorem sH{r c:Int}{xs:List Nat}(h:(M0 r c xs).e=0):M0 r c xs=⟨r,c,xs,0⟩:=by
 unfold M0 at h⊢
 split
 ·rename_i h1;rw[if_pos h1]at h;cases h
 rfl
theorem vJ{r c r' c':Int}{xs ys:List Nat}(h:(F5 r c xs r' c' ys).e=0):(F5 r c xs r' c' ys).r=r∧(F5 r c xs r' c' ys).c=c':=by
 unfold F5 tA at h⊢
 split
 ·rename_i h1
  rw[if_pos h1]at h
  rw[sH h]
  exact⟨rfl,rfl⟩
 rename_i h1
 rw[if_neg h1]at h
 exact absurd h h1
theorem yo{n:Int}{f pa da:List Nat}(h:(Q9 n f pa da).e=0):(Q9 n f pa da).r=n∧(Q9 n f pa da).c=n∧Fc n n (Q9 n f pa da).a:=by
 unfold Q9 at h⊢
 split
 ·rename_i h1;rw[if_pos h1]at h;exact absurd h h1
 rename_i h1
 rw[if_neg h1]at h
 split
 ·rename_i h2;rw[if_pos h2]at h;exact absurd h h2
 rename_i h2
 rw[if_neg h2]at h
 obtain⟨m1,m2⟩:=vJ (Aj h1)
 have h3:PT n n da (F5 n n f n n pa).r (F5 n n f n n pa).c (F5 n n f n n pa).a=0:=by
  unfold vj at h2
  by_cases e:PT n n da (F5 n n f n n pa).r (F5 n n f n n pa).c (F5 n n f n n pa).a=90
  ·rw[if_pos e]at h2;exact absurd (fun h=>by cases h) h2
  rw[if_neg e]at h2;exact Aj h2
 have h4:=tQ h3
 rw[a0w]at h
 have h5:=wK h
 have h6:=uH h
 rw[h5]
 rw[h4]at h6⊢
 rw[m1,m2]at h6⊢
 exact⟨rfl,rfl,Eg h6⟩
def tJ(tx dx:List Nat):Nat→Nat:=fun j=>MA (tx.getD j 0) (dx.getD j 0)
def LS(tx dx:List Nat):Nat→Bool:=fun j=> !DF (tJ tx dx j)
def zX(n:Int)(g px d:List Nat):Nat→Nat:=fun k=>TV (px.getD k 0) (NJ (G6 n g (k:Int)) d)
def mN(n:Int)(g px d:List Nat):Nat→Bool:=fun k=>Ln (G6 n g (k:Int)) d|| !DF (zX n g px d k)
def rkN(n:Int)(g dp:List Nat)(k:Int):Nat→Nat:=fun j=>NJ (G6 n g k) (Gn n n dp (j:Int))
def rL(n:Int)(g dp:List Nat)(k:Int):Nat→Bool:=fun j=>Ln (G6 n g k) (Gn n n dp (j:Int))
def rkL(n:Int)(g dp:List Nat)(k:Int):List Nat:=Ry (rkN n g dp k) n.toNat
def wk(n:Int)(g pa dp:List Nat):Int→Int→Nat:=fun i j=>TV (mat n pa i j) (NJ (rkL n g dp i) (G6 n g j))
def mM(n:Int)(g pa dp:List Nat):Int→Int→Bool:=fun i j=>Ln (rkL n g dp i) (G6 n g j)|| !DF (wk n g pa dp i j)
def rkH(n:Int)(g px d dp:List Nat)(k:Nat):Bool:=mN n g px d k||vF (rL n g dp k) n.toNat
def tL(n:Int)(g px pa d dp:List Nat):Nat→Bool:=fun k=>rkH n g px d dp k||vF (fun j=>mM n g pa dp k j) (k+1)
def Np(tx dx:List Nat)(n:Int):List Nat:=Ry (tJ tx dx) n.toNat
def JM(ta da:List Nat):List Nat:=Ry (tJ ta da) ta.length
def tK(n:Int)(g px pa dx da tx ta:List Nat):Bool:=(vF (LS tx dx) n.toNat||vF (LS ta da) ta.length)||vF (tL n g px pa (Np tx dx n) (JM ta da)) n.toNat
def wm(n:Int)(g px pa dx da tx ta:List Nat):I5:=⟨Ry (zX n g px (Np tx dx n)) n.toNat,n,n,Nd n (wk n g pa (JM ta da))⟩
theorem mL{n:Int}{g px pa dx da tx ta:List Nat}(hs:KK n n)(h:tK n g px pa dx da tx ta=false):Gs n n (wm n g px pa dx da tx ta).a=0∧Gw n n (wm n g px pa dx da tx ta).a=true:=by
 unfold tK at h
 rw[AQ]at h
 refine Ui hs fun i j h0 h1 h2=>?_
 have h3:=OC h.2 (show i.toNat<n.toNat by omega)
 unfold tL at h3
 rw[AQ]at h3
 have h4:=OC h3.2 (show j.toNat<i.toNat+1 by omega)
 unfold mM at h4
 rw[AQ]at h4
 have h5:=h4.2
 rw[show((i.toNat:Nat):Int)=i by omega,show((j.toNat:Nat):Int)=j by omega]at h5
 simpa using h5
noncomputable def yY (n:Int) (q p:List Nat):Bool:=KC n q&&CT .neq (GY (DM n.toNat q p) n.toNat) 1
structure SmR where
 s:Y4
 e:Int
def zz(x:SmR):SP:=EP [DL (KM x.s),I6 x.e]
noncomputable def UW (n:Int) (f px pa dx da tx ta:List Nat):SmR:=
 if(Q9 n f pa da).e≠0 then⟨FS,(Q9 n f pa da).e⟩
 else if tK n (Q9 n f pa da).a px pa dx da tx ta=true then⟨FS,5⟩
 else if yY n (wm n (Q9 n f pa da).a px pa dx da tx ta).a pa=true then⟨⟨wm n (Q9 n f pa da).a px pa dx da tx ta,false⟩,0⟩
 else⟨⟨⟨(wm n (Q9 n f pa da).a px pa dx da tx ta).x,n,n,pa⟩,true⟩,0⟩
structure Vn(n:Int)(pa:List Nat)(x:Y4):Prop where
 r:x.s.r=n
 c:x.s.c=n
 k:Gs n n x.s.a=0
 y:Gw n n x.s.a=true
 p:KC n x.s.a=true
 l:CT .neq (GY (DM n.toNat x.s.a pa) n.toNat) 1=true
 xl:(x.s.x.length:Int)=n
theorem aC{n:Nat}{A:List Nat}:CT .neq (GY (DM n A A) n) 1=true:=by
 rw[pA]
 have:=XC (n:=n)
 simpa[CT]using this
theorem gv{n:Int}{x a:List Nat}{b:Bool}(hx:(x.length:Int)=n)(h1:Gs n n a=0)(h2:Gw n n a=true)(h3:KC n a=true):Vn n a ⟨⟨x,n,n,a⟩,b⟩:=⟨rfl,rfl,h1,h2,h3,aC,hx⟩
theorem sk{n:Int}{f px pa dx da tx ta:List Nat}(hs:KK n n)(h1:Gs n n pa=0)(h2:Gw n n pa=true)(h3:KC n pa=true)(e:(UW n f px pa dx da tx ta).e=0):Vn n pa (UW n f px pa dx da tx ta).s:=by
 have hn:0≤n:=hs.1
 have hxl:((wm n (Q9 n f pa da).a px pa dx da tx ta).x.length:Int)=n:=by
  show((Ry _ _).length:Int)=n
  rw[GH];omega
 unfold UW at e⊢
 split
 ·rename_i k1;rw[if_pos k1]at e;exact absurd e k1
 rename_i k1
 rw[if_neg k1]at e
 split
 ·rename_i k2;rw[if_pos k2]at e;cases e
 rename_i k2
 split
 ·rename_i k3
  obtain⟨c1,c2⟩:=mL hs (by simpa using k2)
  unfold yY at k3
  rw[Ao]at k3
  exact⟨rfl,rfl,c1,c2,k3.1,k3.2,hxl⟩
 exact gv hxl h1 h2 h3
section ops
variable {P:Program} {n:Nat} {ops:Array Oper} {Γ:D2} {ρ:DU} {δ:DK} {τ:List VR}
variable {d:Nat} {ty:TypeId} {pos:String} {af:Array Edge}
theorem UY{α:Type}: ∀ {o m:Nat} {l l':List α},l'.length=m→o+m≤l.length→(∀ i,i<m→nth l' i=nth l (o+i))→I3 o m l=some l'
 |0,0,_,l',h1,_,_=>by rw[BC.1 h1];simp only[I3]
 |0,m+1,[],l',_,h2,_=>by simp at h2
 |0,m+1,x::l,[],h1,_,_=>by simp at h1
 |0,m+1,x::l,y::l',h1,h2,h3=>by
  have h0:=h3 0 (by omega)
  simp only[nth,Aq,Ah]at h0
  subst h0
  have:=UY (o:=0) (m:=m) (l:=l) (l':=l') (by simpa using h1) (by simp at h2;omega) fun i hi=>by
   have:=h3 (i+1) (by omega)
   rw[Aq]at this⊢
   exact this
  simp only[I3,this,AL]
 |o+1,m,[],l',_,h2,_=>by simp at h2
 |o+1,m,x::l,l',h1,h2,h3=>by
  show I3 o m l=some l'
  exact UY h1 (by simp at h2;omega) fun i hi=>by
   have:=h3 i hi
   rw[show o+1+i=(o+i)+1 by omega]at this
   exact this
theorem gA{α:Type}{es:Nat}{mk:α→List SP}(hl: ∀ a,(mk a).length=es)(dv:α){xs:List α}{j o m:Nat}{cs:List SP}(hj:j<xs.length)(h:I3 o m (mk (xs.getD j dv))=some cs):I3 (j*es+o) m (xs.flatMap mk)=some cs:=by
 obtain⟨h1,h2,h3⟩:=Gz h
 rw[hl]at h2
 have hk:j*es+es≤xs.length*es:=by
  have:=Au es (show j+1≤xs.length from hj)
  rw[B6]at this
  exact this
 refine UY h1 (by rw[Gx hl];omega) fun i hi=>?_
 rw[h3 i hi,C6,Jl hl dv hj (by omega)]
theorem Z5{α:Type}{es:Nat}{mk:α→List SP}(hl: ∀ a,(mk a).length=es)(dv:α){xs:List α}{x:Operand}{T m:Nat}{U:TypeId}{base:Value}{off j o:Nat}{cs:List SP}(k:Nat)(hT:MW P T=some m)(hx:Lk Γ δ ρ x (DW base off))(ho:off=j*es+o)(hk:nth τ k=some (.c (Gd base es mk xs U)))(hj:j<xs.length)(hs:I3 o m (mk (xs.getD j dv))=some cs)(hm:Nat.blt 0 m=true):
  OpOK P n ops Γ ρ δ τ ⟨some d,.load T x,ty,pos,af,none⟩ (.rd k) (.c (DL cs)) ET:=by
 subst ho
 exact yI k hT hx hk (bq (by omega)) (gA hl dv hj hs) hm
theorem fg{x y:Operand}{T E es eb:Nat}(k:Nat){k1 k2:IntKind}{l h:Int}{zs:List Value}(ht:Iu P T=some (E,es,eb))(hz:HC P E=some zs)(hz1:zs.all (·.oneCell')=true)(hzl:Nat.beq zs.length es=true)(he:Nat.blt 0 es=true)(hx:Lk Γ δ ρ x (CW (.int k1 l)))(hy:Lk Γ δ ρ y (CW (.int k2 h)))
  (h0:0≤l) (h1:l≤h) (hb:eb*h≤281474976710656) (h63:h≤9223372036854775807) (hk:nth τ k=some (.c emp)):
  OpOK P n ops Γ ρ δ τ ⟨some d,.makeSlice T x y,ty,pos,af,none⟩ (.wr k) (MD d) (.d [d] (fun f=>Gd (f d) es (fun _:Unit=>zs.map CW) (List.replicate l.toNat ()) E) (fun f g h=>by rw[h d (AE.2 rfl)])):=by
 have hzl':zs.length=es:=Bj hzl
 have hl: ∀ a:Unit,((fun _:Unit=>zs.map CW) a).length=es:=fun _=>by rw[Az];exact hzl'
 have he':0<es:=by simpa[Nat.blt_eq]using he
 have hh:=bK (P:=P) (n:=n) (ops:=ops) (Γ:=Γ) (ρ:=ρ) (δ:=δ) (τ:=τ) (d:=d) (ty:=ty) (pos:=pos) (af:=af) (m:=l.toNat) (cells:=(List.replicate l.toNat ()).flatMap fun _=>zs.map CW) k ht hz hz1 hzl hx hy h0 h1 hb h63 rfl (by rw[Gx hl,Am]) (fun i p hi=>by
  have hlt:i<l.toNat*es:=by
   rw[Dq]at hi
   have:=(AU.1 hi).1
   rw[Gx hl,Am]at this
   exact this
  have hq:i/es<(List.replicate l.toNat ()).length:=by rw[Am];exact(CC he').2 hlt
  have hm:i % es<es:=Ap _ he'
  have hie:i=i/es*es+i % es:=by rw[AP];exact(Cm i es).symm
  rw[hie,Jl hl () hq hm,Dq,AC]at hi
  obtain⟨z,h1,h2⟩:=CN.1 hi
  exact⟨z,by rw[Dq];exact h1,h2⟩) hk
 intro a c ob g1 g2 g3 g4 g5 g6 g7
 have:=hh a c ob g1 g2 g3 g4 g5 g6 g7
 simp only[Li,VR.at]at this
 simp only[VR.at,Gd,Am]
 exact this
end ops
theorem TG.append{Γ:D2}{a a' b b':List SP}(h1:TG Γ a a')(h2:TG Γ b b'):TG Γ (a++b) (a'++b'):=by
 induction h1 with
 |nil=>exact h2
 |cons h _ ih=>exact .cons h ih
theorem cl{Γ:D2}{α:Type}{mk:α→List SP}{l:List SP}{x:α}(h:TG Γ l (mk x)): ∀ m,TG Γ ((List.replicate m ()).flatMap fun _=>l) ((List.replicate m x).flatMap mk)
 |0=> .nil
 |m+1=>by
  rw[C5,C5,B8,B8]
  exact h.append (cl h m)
theorem ri{Γ:D2}{sv:Value}{n k:Nat}{cs cs':List SP}{T:TypeId}(h:TG Γ cs cs'): ∀ c ob,FH Γ c→(Za sv n k cs T).H c ob→(Za sv n k cs' T).H c ob:=fun c ob hf ⟨h0,h1⟩=>by
 obtain⟨g1,g2⟩:=h.nth
 refine⟨g1.symm.trans h0,h1.imp id fun⟨b,cap,cur,a1,a2,a3,a4,a5,a6,a7⟩=>⟨b,cap,cur,a1,a2,a3,a4,a5,a6,fun i q hq=>?_⟩⟩
 obtain⟨p,hp,hs⟩:=g2 i q hq
 obtain⟨v,k1,k2,k3⟩:=a7 i p hp
 exact⟨v,k1,k2,hs v c hf k3⟩
theorem nz{Γ:D2}{α:Type}{mk:α→List SP}{l:List SP}{x:α}{sv:Value}{k m:Nat}{T:TypeId}(h:TG Γ l (mk x)): ∀ c ob,FH Γ c→(Gd sv k (fun _:Unit=>l) (List.replicate m ()) T).H c ob→(Gd sv k mk (List.replicate m x) T).H c ob:=fun c ob hf hr=>by
 have h1:=ri (sv:=sv) (n:=m) (k:=k) (T:=T) (cl h m) c ob hf
 unfold Gd at hr⊢
 rw[Am]at hr⊢
 exact h1 hr
structure BS where
 e:Int
 p:Int
 o:List Y4
noncomputable def oA (l:List Hm) (n:Int) (o:List Y4) (i:Nat):SmR:=UW n (l.getD (i+1) Hg).f (l.getD i Hg).q.x (l.getD i Hg).q.a (l.getD (i+1) Hg).p.x (l.getD (i+1) Hg).p.a (o.getD (i+1) FS).s.x (o.getD (i+1) FS).s.a
noncomputable def F0 (l:List Hm) (n:Int):Nat→BS
 |0=>⟨0,0,List.replicate l.length FS⟩
 |q+1=>
  if(F0 l n q).e≠0 then F0 l n q
  else if q=0 then⟨0,(F0 l n q).p,(F0 l n q).o.set (l.length-1) ⟨(l.getD (l.length-1) Hg).q,false⟩⟩
  else⟨(oA l n (F0 l n q).o (l.length-1-q)).e,if(oA l n (F0 l n q).o (l.length-1-q)).e=0 then(F0 l n q).p else((l.length-1-q:Nat):Int),(F0 l n q).o.set (l.length-1-q) (oA l n (F0 l n q).o (l.length-1-q)).s⟩
theorem Km{l:List Hm}{n:Int}{q:Nat}(h:(F0 l n q).e≠0):F0 l n (q+1)=F0 l n q:=if_pos h
theorem HF{l:List Hm}{n:Int}:F0 l n 1=⟨0,0,(List.replicate l.length FS).set (l.length-1) ⟨(l.getD (l.length-1) Hg).q,false⟩⟩:=rfl
theorem Hb{l:List Hm}{n:Int}{q i:Nat}(h:(F0 l n q).e=0)(h0:q≠0)(hi:i=l.length-1-q):F0 l n (q+1)=⟨(oA l n (F0 l n q).o i).e,if(oA l n (F0 l n q).o i).e=0 then(F0 l n q).p else(i:Int),(F0 l n q).o.set i (oA l n (F0 l n q).o i).s⟩:=by
 subst hi
 show(if _ then _ else _:BS)=_
 rw[if_neg (by omega),if_neg h0]
theorem G9{l:List Hm}{n:Int}: ∀ q,(F0 l n q).o.length=l.length
 |0=>Am
 |q+1=>by
  by_cases h:(F0 l n q).e=0
  ·by_cases h0:q=0
   ·subst h0
    rw[HF]
    show(List.set _ _ _).length=_
    rw[Aa,Am]
   rw[Hb h h0 rfl]
   show(List.set _ _ _).length=_
   rw[Aa]
   exact G9 q
  rw[Km h];exact G9 q
theorem gZ.post{k:Hm}{n:Int}(h:gZ k n)(hr:k.r=n):k.q.r=n∧k.q.c=n∧(k.q.x.length:Int)=n∧Gs n n k.q.a=0∧Gw n n k.q.a=true∧KC n k.q.a=true:=by
 have e1:k.q.r=n:=by rw[←h.hq.x,h.ql,hr]
 have h1:=h.hq.k;have h2:=h.hq.y;have h3:=h.hq.p;have h4:=h.hq.c;have h5:=h.ql
 rw[e1]at h1 h2 h3 h4
 exact⟨e1,h4,by omega,h1,h2,h3⟩
theorem gZ.pred{k:Hm}{n:Int}(h:gZ k n)(hr:k.r=n):k.p.r=n∧k.p.c=n∧(k.p.x.length:Int)=n∧Gs n n k.p.a=0:=by
 have e1:k.p.r=n:=by rw[←h.hp.x,h.pl,hr]
 have h1:=h.hp.k;have h4:=h.hp.c;have h5:=h.pl
 rw[e1]at h1 h4
 exact⟨e1,h4,by omega,h1⟩
theorem gZ.mat{k:Hm}{n:Int}(h:gZ k n)(hr:k.r=n):Gs n n k.f=0:=by
 have:=h.hk
 rw[hr]at this
 exact this
theorem jq{α:Type}{l:List α}{i:Nat}{v d:α}(h:i<l.length):(l.set i v).getD i d=v:=by rw[List.getD,BL h];rfl
theorem yn{α:Type}{l:List α}{i j:Nat}{v d:α}(h:i≠j):(l.set i v).getD j d=l.getD j d:=by rw[List.getD,List.getD,Bq h]
theorem ai{l:List Hm}{n:Int}(hl:TC l n): ∀ q,q≤l.length→(F0 l n q).e=0→ ∀ j,l.length≤j+q→j<l.length→Vn n (l.getD j Hg).q.a ((F0 l n q).o.getD j FS)
 |0,_,_,j,h1,h2=>absurd h2 (by omega)
 |q+1,hq,he,j,h1,h2=>by
  by_cases h:(F0 l n q).e=0
  ·by_cases h0:q=0
   ·subst h0
    have hj:j=l.length-1:=by omega
    obtain⟨a1,a2⟩:=hl.at' j h2
    obtain⟨b1,b2,b3,b4,b5,b6⟩:=a2.post a1
    rw[HF]
    show Vn n _ (((List.replicate l.length FS).set (l.length-1) _).getD j FS)
    rw[←hj,jq (by rw[Am];exact h2)]
    exact⟨b1,b2,b4,b5,b6,aC,b3⟩
   rw[Hb h h0 rfl]at he⊢
   have he:(oA l n (F0 l n q).o (l.length-1-q)).e=0:=he
   show Vn n _ (((F0 l n q).o.set (l.length-1-q) _).getD j FS)
   by_cases e:j=l.length-1-q
   ·subst e
    rw[jq (by rw[G9];exact h2)]
    obtain⟨a1,a2⟩:=hl.at' _ h2
    obtain⟨b1,b2,b3,b4,b5,b6⟩:=a2.post a1
    exact sk (Eg b4).1 b4 b5 b6 he
   rw[yn (Ne.symm e)]
   exact ai hl q (by omega) h j (by omega) h2
  rw[Km h]at he
  exact absurd he h
def Va(x:BS)(sv:Value):Value:=if x.e=0 then sv else .slice none 0 0
def gR(E PL O sv:Value)(TE TP TS T:TypeId)(x:BS):Res:=(Dh E [I6 x.e] TE).sep ((Dh PL [I6 x.p] TP).sep ((Dh O [CW (Va x sv)] TS).sep (Gd sv 5 KM x.o T)))
theorem NO{E PL O sv:Value}{TE TP TS T:TypeId}{x y:BS}(h:x.o.length=y.o.length):Y3 (gR E PL O sv TE TP TS T x) (gR E PL O sv TE TP TS T y):=
 NP CU (NP CU (NP CU (by unfold Gd;rw[h];exact U7)))
theorem ah{x:BS}{sv:Value}(h:x.e=0):Va x sv=sv:=if_pos h
theorem tc{x:BS}{sv:Value}(h:x.e≠0):Va x sv= .slice none 0 0:=if_neg h
def gW(X:Cx)(I:List Value→Prop)(μ:List Value→Nat)(Γ:D2)(fx:List Value→D2)(ρf:List Value→DU)(σf:List Value→List Res)(m:Nat):Act→World→Prop:=fun a w=>
 ∃ x c,I x∧μ x<m∧c.w=w∧St ⟨X.P,X.n,X.c0,X.E,x.map ay⟩ (Γ++fx x) (ρf x) (σf x) a c
section dloop
variable {X:Cx} {Γ Γ':D2} {ρ:DU} {σ:List Res} {Q:Exit→Act→World→Prop}
theorem oI{k:Code}(fx:List Value→D2)(I:List Value→Prop)(μ:List Value→Nat)(ρf:List Value→DU→DU)(σf:List Value→List Res→List Res){ρc:DU}{σc:List Res}(h0:I [])(ht:To X Γ ρ σ Γ (ρf [] ρc) (σf [] σc))(hx:X.df=[])(hfx:fx []=[])
  (round: ∀ x,I x→J ⟨X.P,X.n,X.c0,X.E,x.map ay⟩ (Γ++fx x) (ρf x ρc) (σf x σc) k (Exit.then (gW X I μ Γ fx (fun x=>ρf x ρc) (fun x=>σf x σc) (μ x)) Q)):J X Γ ρ σ (.loop k) Q:=fun a c hs=>by
 obtain⟨c',hw,hs'⟩:=ht a c hs
 rw[←hw]
 refine XU (fun n a w=> ∃ x c,I x∧μ x=n∧c.w=w∧St ⟨X.P,X.n,X.c0,X.E,x.map ay⟩ (Γ++fx x) (ρf x ρc) (σf x σc) a c) ?_ (μ []) a c'.w ⟨[],c',h0,rfl,rfl,?_⟩
 ·rintro n a w ⟨x,c,hI,hn,hw,hst⟩
  subst hw
  refine Code.wp_mono ?_ (round x hI a c hst)
  intro e a' w' hq
  cases e with
  |normal=>
   obtain⟨y,c'',hy,hlt,hw',hst'⟩:=hq
   exact⟨μ y,by omega,y,c'',hy,rfl,hw',hst'⟩
  |_=>exact hq
 rw[hfx,List.append_nil]
 exact⟨hs'.size,hs'.defers.trans hx,hs'.facts,hs'.env,hs'.own⟩
theorem vg{a b:Value×SP}{F:D2}: ∀ p,p∈Γ++(a::F)→p∈a::b::(Γ++F):=fun p hp=>by
 rcases BD.1 hp with h|h
 ·exact Bt _ (Bt _ (B3 _ h))
 rcases AH.1 h with h|h
 ·rw[h];exact C4
 exact Bt _ (Bt _ (CM _ h))
theorem cT{P:Program}{n:Nat}{c0:EW}{E:Nat→Prop}{X:Cx}{I:List Value→Prop}{μ:List Value→Nat}{fx:List Value→D2}{ρf:List Value→DU}{σf:List Value→List Res}{m:Nat}(v:Value)(vs:List Value)(hX:X.P=P∧X.n=n∧X.c0=c0∧X.E=E)(hI:I (v::vs))(hμ:μ (v::vs)<m)(hΓ: ∀ p,p∈Γ++fx (v::vs)→p∈Γ')(ht:To ⟨P,n,c0,E,ay v::vs.map ay⟩ Γ' ρ σ Γ' (ρf (v::vs)) (σf (v::vs))):
  JN ⟨P,n,c0,E,ay v::vs.map ay⟩ Γ' ρ σ (Exit.then (gW X I μ Γ fx ρf σf m) Q .normal):=fun a c hs=>by
 obtain⟨c',hw,hs'⟩:=ht a c hs
 obtain⟨h1,h2,h3,h4⟩:=hX
 subst h1;subst h2;subst h3;subst h4
 exact⟨v::vs,c',hI,hμ,hw,hs'.size,hs'.defers,⟨fun u p hm=>hs'.facts.1 u p (hΓ _ hm),hs'.facts.2⟩,hs'.env,hs'.own⟩
end dloop
def fcl(fid:Nat)(caps:Nat→List SP):List Value→D2
 |[]=>[]
 |v::vs=>(v,clv fid (caps vs.length))::fcl fid caps vs
theorem RF{α:Type}{x:α}: ∀ {l:List α},x∈l→ ∃ i,nth l i=some x
 |y::l,h=>by
  rcases AH.1 h with h|h
  ·exact⟨0,by rw[h];rfl⟩
  obtain⟨i,hi⟩:=RF h
  exact⟨i+1,hi⟩
theorem MM(r r':Res): ∀ (l:List Res) (k:Nat),EK (EK l k r) k r'=EK l k r'
 |[],k=>rfl
 |x::l,0=>rfl
 |x::l,k+1=>by
  show x::EK (EK l k r) k r'=x::EK l k r'
  rw[MM r r' l k]
theorem WJ{r r':Res}{l:List Res}{k:Nat}(h:nth l k=some r):nth (EK l k r') k=some r':=by
 rw[G3,if_pos rfl,h];rfl
theorem PH{r:Res}: ∀ {l:List Res} {k:Nat},nth l k=some r→EK l k r=l
 |[],k,h=>rfl
 |x::l,0,h=>by simp only[nth,Ah]at h;subst h;rfl
 |x::l,k+1,h=>by
  have h:nth l k=some r:=h
  show x::EK l k r=x::l
  rw[PH h]
theorem SA{P:Program}{fn:Func}{n:Nat}{c0:EW}{E:Nat→Prop}{Γ:D2}{ρ:DU}{R:Ending→World→Prop}{fid:Nat}{caps:Nat→List SP}{r:Nat→Res}{N:Nat}(k:Nat)(hf: ∀ i q,i+q+1=N→gQ P fid (caps i) (r q) (r (q+1))):
  ∀ (vs:List Value) (q:Nat) (σ:List Res),vs.length+q=N→(∀ p,p∈fcl fid caps vs→p∈Γ)→nth σ k=some (r q)→JN ⟨P,n,c0,E,[]⟩ Γ ρ (EK σ k (r N)) (wW P fn R)→JN ⟨P,n,c0,E,vs.map ay⟩ Γ ρ σ (wW P fn R)
 |[],q,σ,hq,_,hk,h=>by
  have:q=N:=by simpa using hq
  subst this
  rw[PH hk]at h
  exact h
 |v::vs,q,σ,hq,hΓ,hk,h=>by
  rw[AG]at hq
  obtain⟨i,hi⟩:=RF (hΓ (v,clv fid (caps vs.length)) C4)
  refine Tz k i (hf vs.length q (by omega)) hi hk rfl<|SA k hf vs (q+1) _ (by omega) (fun p hp=>hΓ p (Bt _ hp)) (WJ hk) ?_
  rw[MM]
  exact h
def oz(x:BS):List Y4:=if x.e=0 then x.o else []
def mw(x:BS):SP:=EP [Lq 5 KM (oz x),Ge,I6 x.e]
theorem VB{x:BS}(h:x.e=0):oz x=x.o:=if_pos h
theorem y8{x:BS}(h:x.e≠0):oz x=[]:=if_neg h
theorem OW{l:List Hm}{n:Int}{m:Nat}(h:TC l n):TC (l.take m) n:=by
 refine⟨fun i hi=>?_,by rw[A9];have:=h.m;omega⟩
 rw[A9]at hi
 have e:(l.take m).getD i Hg=l.getD i Hg:=by rw[List.getD,List.getD,List.getElem?_take_of_lt (by omega)]
 rw[e]
 exact h.at' i (by omega)
def rG(o:List Y4)(e:Int):SP:=EP [Lq 5 KM o,Ge,I6 e]
theorem Tf{Γ:D2}{p:SP}{o o':List Y4}{e e':Int}(ho:o'=o)(he:e'=e):Sb Γ (EP [Lq 5 KM o,p,I6 e]) (rG o' e'):=by
 subst ho;subst he
 rintro v c hf ⟨vs,h1,h2⟩
 match vs,h2 with
 |[a,b,d],⟨g1,g2,g3,g4⟩=>exact⟨[a,b,d],h1,g1,trivial,g3,g4⟩
def T7(l:List Hm):Int:=(l.getD 0 Hg).r
noncomputable def x6 (l:List Hm):List Y4:=if Vb l≠0 then []else oz (F0 l (T7 l) l.length)
noncomputable def smE (l:List Hm):Int:=if Vb l≠0 then Vb l else(F0 l (T7 l) l.length).e
theorem ns{l:List Hm}(h:Vb l≠0):smE l=Vb l∧x6 l=[]:=⟨if_pos h,if_pos h⟩
theorem Xz{l:List Hm}(h:Vb l=0):smE l=(F0 l (T7 l) l.length).e∧x6 l=oz (F0 l (T7 l) l.length):=⟨if_neg (by omega),if_neg (by omega)⟩
structure xR(l:List Hm)(o:List Y4):Prop where
 len:o.length=l.length
 ok:TC l (T7 l)
 at': ∀ i,i<l.length→Vn (T7 l) (l.getD i Hg).q.a (o.getD i FS)
theorem a0h{l:List Hm}(h:smE l=0):xR l (x6 l):=by
 by_cases h0:Vb l=0
 ·obtain⟨h1,h2⟩:=Xz h0
  have hl:=bm h0
  rw[h1]at h
  rw[h2,VB h]
  exact⟨G9 _,hl,fun i hi=>ai hl _ (A5 _) h i (by omega) hi⟩
 rw[(ns h0).1]at h
 exact absurd h h0
def Ro(l:List Hm)(m:Int)(i:Nat):Nat:=if m<(l.length:Int) -1-i then i+m.toNat+1 else l.length
noncomputable def bg (l:List Hm) (m:Int) (i:Nat):BS:=F0 (l.take (Ro l m i)) (T7 l) (l.take (Ro l m i)).length
noncomputable def x3 (l:List Hm) (m:Int) (i:Nat):Y4:=(oz (bg l m i)).getD i FS
noncomputable def Y6 (l:List Hm) (m:Int):Nat→Int
 |0=>0
 |k+1=>if Y6 l m k≠0 then Y6 l m k else(bg l m k).e
theorem NW{l:List Hm}{m:Int}{k:Nat}(h:Y6 l m k=0):Y6 l m (k+1)=(bg l m k).e:=if_neg (by omega)
theorem Rn{l:List Hm}{m:Int}{k:Nat}(h:Y6 l m k≠0): ∀ j,k≤j→Y6 l m j=Y6 l m k
 |0,hm=>by rw[show k=0 by omega]
 |j+1,hm=>by
  by_cases e:k=j+1
  ·rw[e]
  have ih:=Rn h j (by omega)
  show(if Y6 l m j≠0 then Y6 l m j else _)=_
  rw[ih,if_pos h]
theorem bh{l:List Hm}{m:Int}{k j:Nat}(h:Y6 l m k=0)(h2:(bg l m k).e≠0)(hj:k<j):Y6 l m j=(bg l m k).e:=by
 have h3:=NW h
 rw[Rn (k:=k+1) (by rw[h3];exact h2) j (by omega),h3]
theorem kj{l:List Hm}{m:Int}: ∀ {j:Nat},Y6 l m j=0→ ∀ i,i<j→(bg l m i).e=0
 |0,_,i,hi=>absurd hi (Bl i)
 |j+1,h,i,hi=>by
  by_cases h1:Y6 l m j=0
  ·by_cases e:i=j
   ·subst e
    rw[NW h1]at h
    exact h
   exact kj h1 i (by omega)
  rw[Rn h1 (j+1) (by omega)]at h
  exact absurd h h1
noncomputable def kn (l:List Hm) (m:Int) (k:Nat):List Y4:=(List.range k).map (x3 l m)
theorem NX{l:List Hm}{m:Int}{k:Nat}:kn l m (k+1)=kn l m k++ [x3 l m k]:=by
 unfold kn
 rw[List.range_succ,C3]
 rfl
theorem bj{l:List Hm}{m:Int}{k:Nat}:(kn l m k).length=k:=by unfold kn;rw[Az,List.length_range]
noncomputable def Rg (l:List Hm) (m:Int):Int:=if Vb l≠0 then Vb l else Y6 l m l.length
noncomputable def jP (l:List Hm) (m:Int):List Y4:=if Rg l m≠0 then []else kn l m l.length
theorem Uh{l:List Hm}{m:Int}{i:Nat}(h0:0≤m)(hi:i<l.length)(he:(bg l m i).e=0):i<(l.take (Ro l m i)).length∧(oz (bg l m i)).length=(l.take (Ro l m i)).length:=by
 refine⟨?_,by rw[VB he];exact G9 _⟩
 rw[A9]
 unfold Ro
 split<;>omega
theorem vx{l:List Hm}{m:Int}(h0:0≤m)(h:Rg l m=0):xR l (jP l m):=by
 have ho:jP l m=kn l m l.length:=if_neg (by omega)
 unfold Rg at h
 split at h
 ·rename_i h1;exact absurd h h1
 rename_i h1
 have hl:=bm (Aj h1)
 rw[ho]
 refine⟨bj,hl,fun i hi=>?_⟩
 have he:=kj h i hi
 obtain⟨a1,a2⟩:=Uh h0 hi he
 have hx:(kn l m l.length).getD i FS=x3 l m i:=by
  unfold kn
  rw[List.getD,AC,Ci hi]
  rfl
 have hb:=ai (OW (m:=Ro l m i) hl) _ (A5 _) he i (by omega) a1
 have e:(l.take (Ro l m i)).getD i Hg=l.getD i Hg:=by
  rw[A9]at a1
  rw[List.getD,List.getD,List.getElem?_take_of_lt (by omega)]
 rw[e]at hb
 rw[hx]
 unfold x3
 rw[VB he]
 exact hb
theorem MQ.rsz{n:Nat}{Q:List Nat}(h:MQ n Q)(i j:Nat)(hi:i<n)(hj:j<n):JI 40 (QM n Q i j):=by
 have hk:i*n+j<Q.length:=by rw[h.len];exact Kf hi hj
 exact aD (Uo (h.fin _ hk) (h.lt _ hk))
def wT:Nat→Nat
 |0=>40
 |c+1=>4*wT c+2
theorem XW(c:Nat):wT (c+1)=4*wT c+2:=rfl
theorem wU{c d:Nat}(h:c≤d):wT c≤wT d:=by
 induction h with
 |refl=>exact A5 _
 |step _ ih=>rw[XW];omega
theorem om{c:Nat}(h:c≤11):wT c≤180000000:=Ak (wU h) (by decide+kernel)
theorem Pd{M:Nat→Nat→Rat}{n:Nat}(hp: ∀ c,c<n→0<HB M c c c)(h: ∀ i j,i<n→j<n→JI 40 (M i j)): ∀ c i j,c≤i→i<n→j<n→JI (wT c) (HB M c i j)
 |0,i,j,_,hi,hj=>h i j hi hj
 |c+1,i,j,hc,hi,hj=>by
  have a:=Pd hp h c i j (by omega) hi hj
  have b:=Pd hp h c i c (by omega) hi (by omega)
  have p:=Pd hp h c c c (A5 c) (by omega) (by omega)
  have w:=Pd hp h c c j (A5 c) (by omega) hj
  have h0:HB M c c c≠0:=fun e=>by
   have:=hp c (by omega)
   rw[e]at this
   exact absurd this (by decide)
  rw[LA (by omega),XW]
  exact rS a (cb (cf b p h0 (A5 _)) w (A5 _)) (by omega)
structure sX(n:Nat)(M:Nat→Nat→Rat):Prop where
 n12:n≤12
 pos: ∀ c,c<n→0<HB M c c c
 sz: ∀ i j,i<n→j<n→JI 40 (M i j)
theorem sX.all{n:Nat}{M:Nat→Nat→Rat}(h:sX n M)(c i j:Nat)(hi:i<n)(hj:j<n):JI 180000000 (HB M c i j):=by
 have:=h.n12
 by_cases hc:c≤i
 ·exact(Pd h.pos h.sz c i j hc hi hj).mono (om (by omega))
 rw[QU (by omega)]
 exact(Pd h.pos h.sz i i j (A5 i) hi hj).mono (om (by omega))
theorem sX.flat{qs:List Rat}{M:Nat→Nat→Rat}{n:Nat}(hl:qs.length=n*n)(hM: ∀ r j,r<n→j<n→qs.getD (r*n+j) 0=M r j)(hE:sX n M)(m:Nat):JI 40 (qs.getD m 0):=by
 by_cases h:m<n*n
 ·have hn:0<n:=AS fun e=>by subst e;omega
  have h1:m/n<n:=Nat.div_lt_of_lt_mul h
  have h2:m % n<n:=Ap _ hn
  have h3:=hM (m/n) (m % n) h1 h2
  have e:m/n*n+m % n=m:=by rw[AP];exact Cm m n
  rw[e]at h3
  rw[h3]
  exact hE.sz _ _ h1 h2
 have:qs.getD m 0=0:=by simp only[List.getD,AT (show qs.length≤m by omega),Option.getD_none]
 rw[this]
 exact mW.mono (by omega)
theorem oN{qs:List Rat}{M:Nat→Nat→Rat}{n c:Nat}(hE:sX n M)(h:Sy qs M n c 0)(hc:c<n):HT (qs.getD (c*n+c) 0).num=1∧qs.getD (c*n+c) 0≠0:=by
 have h1:=h.2 c c hc hc
 rw[if_neg (Bl c)]at h1
 rw[h1]
 have h2:=hE.pos c hc
 have h3:0<(HB M c c c).num:=by rw[Rat.lt_iff]at h2;simpa using h2
 refine⟨?_,fun e=>?_⟩
 ·unfold HT
  split<;>(try split)<;>omega
 rw[e]at h2
 exact absurd h2 (by decide)
theorem uu{qs:List Rat}{M:Nat→Nat→Rat}{n c i:Nat}(hE:sX n M)(h:Sy qs M n c i)(hi:i<n)(hc:c<n):(∀ j,j<n→JI 225000000 (qs.getD (i*n+j) 0))∧(∀ j,j<n→JI 225000000 (qs.getD (c*n+j) 0))∧JI 500000000 (qs.getD (i*n+c) 0)∧JI 500000000 (qs.getD (c*n+c) 0)∧qs.getD (c*n+c) 0≠0∧JI 500000000 (qs.getD (i*n+c) 0/qs.getD (c*n+c) 0):=by
 have key: ∀ r j,r<n→j<n→JI 180000000 (qs.getD (r*n+j) 0):=fun r j hr hj=>by
  rw[h.2 r j hr hj]
  exact hE.all _ _ _ hr hj
 have hn:qs.getD (c*n+c) 0≠0:=by
  have h1:=h.2 c c hc hc
  have h2:=hE.pos c hc
  have h3:HB M (if c<i then c+1 else c) c c=HB M c c c:=by
   split
   ·exact JQ (A5 c)
   rfl
  rw[h1,h3]
  intro e
  rw[e]at h2
  exact absurd h2 (by decide)
 have a:=key i c hi hc
 have b:=key c c hc hc
 exact⟨fun j hj=>(key i j hi hj).mono (by omega),fun j hj=>(key c j hc hj).mono (by omega),a.mono (by omega),b.mono (by omega),hn,cf a b hn (by omega)⟩
theorem v8{n:Nat}{Q:List Nat}(h:MQ n Q)(hp:KC (n:Int) Q=true):sX n (QM n Q):=by
 unfold KC at hp
 rw[Ar]at hp
 exact⟨h.n12,nE (of_decide_eq_true hp),h.rsz⟩
structure Sh where
 t:Int
 r:Int
 c:Int
 a:List Nat
 rs:List Nat
 zs:List Nat
def Wh(g:Sh):List SP:=[I6 g.t,I6 g.r,I6 g.c,Dp g.a,Dp g.rs,Dp g.zs]
def Ij:Sh:=⟨0,0,0,[],[],[]⟩
theorem jY(g:Sh):(Wh g).length=6:=rfl
structure xP where
 s:I5
 l:List Hm
 e:Int
def fO(ps:List H9)(g:Sh):MR:=IY H7 ps g.t
noncomputable def gS (s:I5) (ps:List H9) (g:Sh):KR:=Lh s ps g.t
noncomputable def fP (s:I5) (ps:List H9) (g:Sh):KR:=Ii (gS s ps g).s g.r g.c g.a g.rs g.zs
noncomputable def x5 (s:I5) (ps:List H9) (g:Sh):Hm:=⟨(fO ps g).r,(fO ps g).c,(fO ps g).a,(gS s ps g).s,(fP s ps g).s⟩
noncomputable def UJ (s:I5) (ps:List H9) (g:Sh):Int:=if(fO ps g).e≠0 then(fO ps g).e else if(gS s ps g).e≠0 then(gS s ps g).e else(fP s ps g).e
noncomputable def Ib (s:I5) (ps:List H9) (gs:List Sh):Nat→xP
 |0=>⟨s,[],0⟩
 |k+1=>
  if(Ib s ps gs k).e≠0 then Ib s ps gs k
  else if UJ (Ib s ps gs k).s ps (gs.getD k Ij)≠0 then⟨(Ib s ps gs k).s,(Ib s ps gs k).l,UJ (Ib s ps gs k).s ps (gs.getD k Ij)⟩
  else⟨(fP (Ib s ps gs k).s ps (gs.getD k Ij)).s,(Ib s ps gs k).l++ [x5 (Ib s ps gs k).s ps (gs.getD k Ij)],0⟩
theorem tM{s:I5}{ps:List H9}{g:Sh}(h:(fO ps g).e≠0):UJ s ps g=(fO ps g).e:=if_pos h
theorem tN{s:I5}{ps:List H9}{g:Sh}(h:(fO ps g).e=0)(h2:(gS s ps g).e≠0):UJ s ps g=(gS s ps g).e:=by unfold UJ;rw[if_neg (by omega),if_pos h2]
theorem mO{s:I5}{ps:List H9}{g:Sh}(h:(fO ps g).e=0)(h2:(gS s ps g).e=0):UJ s ps g=(fP s ps g).e:=by unfold UJ;rw[if_neg (by omega),if_neg (by omega)]
theorem Jy{s:I5}{ps:List H9}{gs:List Sh}{k:Nat}(h:(Ib s ps gs k).e=0)(h2:UJ (Ib s ps gs k).s ps (gs.getD k Ij)=0):Ib s ps gs (k+1)=⟨(fP (Ib s ps gs k).s ps (gs.getD k Ij)).s,(Ib s ps gs k).l++ [x5 (Ib s ps gs k).s ps (gs.getD k Ij)],0⟩:=by
 show(if _ then _ else _:xP)=_
 rw[if_neg (by omega),if_neg (by omega)]
theorem RT{s:I5}{ps:List H9}{gs:List Sh}{k:Nat}(h:(Ib s ps gs k).e≠0): ∀ m,k≤m→Ib s ps gs m=Ib s ps gs k
 |0,hm=>by rw[show k=0 by omega]
 |m+1,hm=>by
  by_cases e:k=m+1
  ·rw[e]
  have ih:=RT h m (by omega)
  show(if(Ib s ps gs m).e≠0 then Ib s ps gs m else _:xP)=_
  rw[ih,if_pos h]
theorem Qj{s:I5}{ps:List H9}{gs:List Sh}{k m:Nat}{e:Int}(h:(Ib s ps gs k).e=0)(h2:UJ (Ib s ps gs k).s ps (gs.getD k Ij)=e)(he:e≠0)(hm:k<m):(Ib s ps gs m).e=e:=by
 have h3:(Ib s ps gs (k+1)).e=e:=by
  show(if(Ib s ps gs k).e≠0 then Ib s ps gs k else _:xP).e=_
  rw[if_neg (by omega),if_pos (by rw[h2];exact he)]
  exact h2
 rw[RT (k:=k+1) (by rw[h3];exact he) m (by omega),h3]
theorem c9{s:I5}{ps:List H9}{gs:List Sh}: ∀ k,(Ib s ps gs k).e=0→(Ib s ps gs k).l.length=k
 |0,_=>rfl
 |k+1,h=>by
  by_cases h1:(Ib s ps gs k).e=0
  ·by_cases h2:UJ (Ib s ps gs k).s ps (gs.getD k Ij)=0
   ·rw[Jy h1 h2]
    show(_++ [_]).length=_
    rw[As,c9 k h1];rfl
   have h3:=Qj h1 rfl h2 (show k<k+1 by omega)
   rw[h]at h3
   exact absurd h3.symm h2
  rw[RT h1 (k+1) (by omega)]at h
  exact absurd h h1
noncomputable def Zl (s:I5) (ps:List H9) (gs:List Sh):Int:=if HK s≠0 then HK s else if 256<gs.length then 2 else(Ib s ps gs gs.length).e
noncomputable def zY (s:I5) (ps:List H9) (gs:List Sh):List Hm:=if Zl s ps gs≠0 then []else(Ib s ps gs gs.length).l
def mx(l:List Hm)(e:Int):SP:=EP [Lq 11 Nw l,Ge,I6 e]
theorem Pb{Γ:D2}{p:SP}{o o':List Hm}{e e':Int}(ho:o'=o)(he:e'=e):Sb Γ (EP [Lq 11 Nw o,p,I6 e]) (mx o' e'):=by
 subst ho;subst he
 rintro v c hf ⟨vs,h1,h2⟩
 match vs,h2 with
 |[a,b,d],⟨g1,g2,g3,g4⟩=>exact⟨[a,b,d],h1,g1,trivial,g3,g4⟩
structure ik(s:I5):Prop where
 x:s.x.length≤12
 a:s.a.length≤144
theorem cz{s:I5}(h:HK s=0):ik s:=by
 have hK:=J1.1 h
 have hg:=Eg hK.k
 have h1:=hg.1.2.1
 have h2:=hg.1.mul
 have h3:=hg.2
 have h4:=hK.x
 exact⟨by omega,by omega⟩
theorem P4{e:Int}{x:KR}(h:(Sq e x).e=0):e=0∧Sq e x=x:=by
 by_cases h0:e=0
 ·exact⟨h0,ED h0⟩
 rw[Jw h0]at h
 exact absurd h h0
theorem nr{s:I5}{h:List Nat}{r z:Nat}(e:(IT s h r z).e=0):ik (IT s h r z).s:=by
 unfold IT at e⊢
 obtain⟨h1,e1⟩:=P4 e
 rw[e1]at e⊢
 obtain⟨h2,e2⟩:=P4 e
 rw[e2]at e⊢
 obtain⟨h3,e3⟩:=P4 e
 rw[e3]at e⊢
 obtain⟨e4,_,_⟩:=kr e
 rw[e4]
 obtain⟨hK,_⟩:=Zc h1
 have hl:=cz hK
 have hl1:=hl.x
 refine⟨?_,?_⟩
 ·show(Ry _ _).length≤12
  rw[GH];omega
 show(u4 _ _ _ _).length≤144
 unfold u4 yz Nd
 rw[FL]
 have:(s.x.length:Int).toNat≤12:=by omega
 exact C9 this this
theorem Zt{s:I5}{hc:Int}{ha rs zs:List Nat}(h0:ik s): ∀ k,(Gm s hc ha rs zs k).e=0→ik (Gm s hc ha rs zs k).s
 |0,_=>h0
 |k+1,h=>by
  by_cases h1:(Gm s hc ha rs zs k).e=0
  ·rw[Ir h1]at h⊢
   exact nr h
  rw[Nr h1 (k+1) (by omega)]at h
  exact absurd h h1
theorem gq{s:I5}{hr hc:Int}{ha rs zs:List Nat}(h:(Ii s hr hc ha rs zs).e=0):ik (Ii s hr hc ha rs zs).s:=by
 unfold Ii at h⊢
 obtain⟨h1,e1⟩:=P4 h
 rw[e1]at h⊢
 obtain⟨h2,e2⟩:=P4 h
 rw[e2]at h⊢
 obtain⟨h3,e3⟩:=P4 h
 rw[e3]at h⊢
 exact Zt (cz h1) _ h
structure K8 where
 h:List Nat
 r:Nat
 z:Nat
def mP(w:K8):List SP:=[u6 w.h,XR w.r,XR w.z]
def LV:K8:=⟨[],0,0⟩
theorem mQ(w:K8):(mP w).length=3:=rfl
structure MT where
 t:Int
 w:List K8
def YR(g:MT):List SP:=[I6 g.t,Lq 3 mP g.w]
def G0:MT:=⟨0,[]⟩
theorem jZ(g:MT):(YR g).length=2:=rfl
structure Qw(w:K8):Prop where
 h: ∀ b,b∈w.h→b<2^64
 r:w.r<2^64
 z:w.z<2^64
structure Sz(g:MT):Prop where
 at': ∀ w,w∈g.w→Qw w
 m:g.w.length≤2000000
 s:(g.w.flatMap K8.h).length≤2000000
def qx(w:List K8):List Nat:=w.flatMap fun x=>x.h.map cn
def tk(w:List K8):List Nat:=w.map fun x=>cn x.r
def tl(w:List K8):List Nat:=w.map fun x=>cn x.z
theorem qy(w:List K8):(qx w).length=(w.flatMap K8.h).length:=by
 unfold qx
 induction w with
 |nil=>rfl
 |cons x l ih=>rw[B8,B8,As,As,ih,Az]
theorem cL{w:List K8}{k:Nat}(h:k<w.length):w.take (k+1)=w.take k++ [w.getD k LV]:=GA LV h
theorem Wn{w:List K8}{k:Nat}(h:k<w.length):qx (w.take (k+1))=qx (w.take k)++(w.getD k LV).h.map cn:=by
 unfold qx
 rw[cL h,List.flatMap_append]
 simp
theorem Wo{w:List K8}{k:Nat}(h:k<w.length):tk (w.take (k+1))=tk (w.take k)++ [cn (w.getD k LV).r]:=by
 unfold tk
 rw[cL h,C3]
 rfl
theorem Wp{w:List K8}{k:Nat}(h:k<w.length):tl (w.take (k+1))=tl (w.take k)++ [cn (w.getD k LV).z]:=by
 unfold tl
 rw[cL h,C3]
 rfl
theorem N3{α β:Type}{f:α→List β}: ∀ {w:List α} {k:Nat},((w.take k).flatMap f).length≤(w.flatMap f).length
 |[],k=>by simp
 |x::w,0=>by simp
 |x::w,k+1=>by
  rw[List.take_succ_cons,B8,B8,As,As]
  exact Nat.add_le_add_left N3 _
theorem vA{g:MT}(h:Sz g)(k:Nat):(qx (g.w.take k)).length≤2000000:=by
 rw[qy]
 exact Ak N3 h.s
theorem wq{g:MT}(h:Sz g){k:Nat}(hk:k<g.w.length):(g.w.getD k LV).h.length≤2000000:=by
 have h1:((g.w.take (k+1)).flatMap K8.h).length≤(g.w.flatMap K8.h).length:=N3
 rw[cL hk,List.flatMap_append,As,B8,List.flatMap_nil,List.append_nil]at h1
 have h2:=h.s
 omega
theorem jt{g:MT}{k:Nat}(hk:k<g.w.length):g.w.getD k LV∈g.w:=by
 rw[List.getD,Ag hk]
 exact List.getElem_mem hk
def YQ(n:Int)(g:MT):Sh:=⟨g.t,(g.w.length:Int),n,qx g.w,tk g.w,tl g.w⟩
theorem qn(lg:Int): ∃ m:Int,((lg.tmod 5+5).tmod 5)=m∧0≤m∧m≤4:=by
 have h1: -5<lg.tmod 5∧lg.tmod 5<5:=by
  have:=Int.tmod_lt_of_pos lg (show(0:Int)<5 by decide)
  have:=Int.lt_tmod_of_pos lg (show(0:Int)<5 by decide)
  omega
 have h2:=Int.tmod_nonneg 5 (show 0≤lg.tmod 5+5 by omega)
 have h3:=Int.tmod_lt_of_pos (lg.tmod 5+5) (show(0:Int)<5 by decide)
 exact⟨_,rfl,h2,by omega⟩
theorem aB{l:List Hm}{o:List Y4}(hz:xR l o): ∃ N:Nat,T7 l=(N:Int)∨l.length=0:=by
 by_cases h0:l.length=0
 ·exact⟨0,.inr h0⟩
 have h1:=(hz.at' 0 (by omega)).k
 have h2:=(Eg h1).1.1
 exact⟨(T7 l).toNat,.inl (by omega)⟩
end Go.Bn
