/-
 Regions of one order cut in two; calls that only read what their caller owns.
-/
import Derived.Test.YtgfanjebfjeneaaGreatDoorZqM3
set_option linter.unusedVariables false
set_option linter.unusedSimpArgs false
namespace Go.Bn
open Go
theorem gK{P:Program}{o:Oper}{a:Act}{next K:Act→World→Prop}{Q:Exit→Act→World→Prop}{r:Result Go.Next}(h:o.upon P a next (Exit.then K Q) r):o.upon P a next Q r:=by
 cases r with
 |ok n w=>
  cases n<;>first
   |exact h
   |exact Calls.mono h fun e w'' he=>by cases e<;>exact he
 |halt x w=>cases x<;>exact h
theorem PM{o:Oper}(h:o.guard=none)(y:Nat→Option Bool):Region.wanted o y=true:=by
 unfold Region.wanted;rw[h]
theorem V4{o:Oper}{y z:Nat→Option Bool}(h: ∀ j b,o.guard=some (j,b)→y j=z j):Region.wanted o y=Region.wanted o z:=by
 unfold Region.wanted
 cases hg:o.guard with
 |none=>rfl
 |some g=>obtain⟨j,b⟩:=g;simp only;rw[h j b hg]
theorem PN{P:Program}{l1 l2:List Oper}{Q:Exit→Act→World→Prop}(hg2: ∀ o,o∈l2→o.guard=none):
  ∀ (m i:Nat),i+m=l2.length→ ∀ a w,wpOps P l2.toArray Q (List.range' i m) a w→wpOps P (l1++l2).toArray Q (List.range' (l1.length+i) m) a w
 |0,i,him,a,w,h=>h
 |m+1,i,him,a,w,h=>by
  rw[List.range'_succ]at h⊢
  have hi:i<l2.length:=by omega
  have e1:l2.toArray[i]? =some l2[i]:=by simp[hi]
  have e2:(l1++l2).toArray[l1.length+i]? =some l2[i]:=by simp[hi]
  have hgn:=hg2 l2[i] (List.getElem_mem hi)
  simp only[wpOps,e1,e2,PM hgn,if_true]at h⊢
  refine h.imp (fun h=>Oper.wp_mono (fun a' w' h'=>?_) h) id
  exact PN hg2 m (i+1) (by omega) a' w' h'
theorem Po{P:Program}{l1 l2:List Oper}{Q:Exit→Act→World→Prop}(hg1: ∀ o,o∈l1→ ∀ j b,o.guard=some (j,b)→j<l1.length)(hg2: ∀ o,o∈l2→o.guard=none):
  ∀ (m i:Nat),i+m=l1.length→ ∀ a w,wpOps P l1.toArray (Exit.then (fun a w=>wpOps P l2.toArray Q (List.range l2.length) a w) Q) (List.range' i m) a w→wpOps P (l1++l2).toArray Q (List.range' i (m+l2.length)) a w
 |0,i,him,a,w,h=>by
  have h':wpOps P l2.toArray Q (List.range l2.length) a w:=h
  rw[List.range_eq_range']at h'
  have:=PN (l1:=l1) hg2 l2.length 0 (by omega) a w h'
  rw[Aq,show i=l1.length by omega]
  exact this
 |m+1,i,him,a,w,h=>by
  rw[show m+1+l2.length=(m+l2.length)+1 by omega]
  rw[List.range'_succ]at h⊢
  have hi:i<l1.length:=by omega
  have e1:l1.toArray[i]? =some l1[i]:=by simp[hi]
  have e2:(l1++l2).toArray[i]? =some l1[i]:=by simp[hi,AW]
  have hw:Region.wanted l1[i] (yielded (l1++l2).toArray a.tmps)=Region.wanted l1[i] (yielded l1.toArray a.tmps):=V4 fun j b hj=>by
   have hjl:=hg1 _ (List.getElem_mem hi) j b hj
   unfold yielded
   have:(l1++l2).toArray[j]? =l1.toArray[j]? :=by simp[AW hjl]
   rw[this]
  simp only[wpOps,e1,e2,hw]at h⊢
  split at h
  ·rename_i hw'
   rw[if_pos hw']
   refine h.imp (fun h=>?_) (fun h=>?_)
   ·exact Oper.wp_mono (fun a' w' h'=>Po hg1 hg2 m (i+1) (by omega) a' w' h') (gK h)
   exact⟨h.1,h.2⟩
  rename_i hw'
  rw[if_neg hw']
  exact Po hg1 hg2 m (i+1) (by omega) _ w h
def JO(X:Cx)(Γ:D2)(ρ:DU)(σ:List Res)(l:List Oper)(Q:Exit→Act→World→Prop):Prop:= ∀ a c,St X Γ ρ σ a c→wpOps X.P l.toArray Q (List.range l.length) a c.w
section seg
variable {X:Cx} {Γ:D2} {ρ:DU} {σ:List Res} {Q:Exit→Act→World→Prop}
theorem Sg{id:Nat}{l:List Oper}(h:JO X Γ ρ σ l Q):J X Γ ρ σ (.region id l.toArray false) Q:=fun a c hs=>wp_region (by have:=h a c hs;simpa using this)
def cE(k:Nat)(l:List Oper):Bool:=Nat.ble k l.length&&(l.take k).all (fun o=>match o.guard with|none=>true|some (j,_)=>Nat.blt j k)&&(l.drop k).all (fun o=>o.guard.isNone)
theorem Ha{l:List Oper}(k:Nat)(hk:cE k l=true)(h:JO X Γ ρ σ (l.take k) (Exit.then (fun a w=>wpOps X.P (l.drop k).toArray Q (List.range (l.drop k).length) a w) Q)):JO X Γ ρ σ l Q:=fun a c hs=>by
 unfold cE at hk
 simp only[Ao]at hk
 obtain⟨⟨h0,h1⟩,h2⟩:=hk
 have h0:=A8 h0
 have hlen:(l.take k).length=k:=by rw[A9];omega
 have g1: ∀ o,o∈l.take k→ ∀ j b,o.guard=some (j,b)→j<(l.take k).length:=fun o ho j b hg=>by
  have:=B1.1 h1 o ho
  rw[hg]at this
  rw[hlen]
  exact HE this
 have g2: ∀ o,o∈l.drop k→o.guard=none:=fun o ho=>by simpa using B1.1 h2 o ho
 have h3:=h a c hs
 rw[List.range_eq_range' (n:=(l.take k).length)]at h3
 have h4:=Po g1 g2 (l.take k).length 0 (by omega) a c.w h3
 rw[Bu]at h4
 rw[List.range_eq_range']
 have e:(l.take k).length+(l.drop k).length=l.length:=by rw[A9,AD];omega
 rw[e]at h4
 exact h4
theorem GQ{l:List Oper}{is:List Ei}{δ:DK}{τ:List VR}
  (hs:Steps X.P X.n l.toArray Γ ρ [] (FC σ) l is δ τ) (hc:PE false X.n l is σ.length []=true)
  (h: ∀ g,Next X Γ ρ δ τ g (Q .normal)):JO X Γ ρ σ l Q:=by
 intro a c hst
 obtain⟨obs,hown,hres⟩:=hst.own
 unfold PE at hc
 rw[Ao]at hc
 obtain⟨hc0,hc⟩:=hc
 simp only[RR,Ao]at hc
 obtain⟨⟨hc1,hc2⟩,hc3⟩:=hc
 obtain⟨g1,g2,g3,g4⟩:=hs.spec (k:=0) [] (fun j=>by simp) rfl (FC σ) rfl rfl
 simp only[Ck,Aq]at g2 g3 g4
 have hτ: ∀ k r,nth (FC σ) k=some r→r.D=[]:=fun k r hr=>by
  rw[Hy]at hr
  cases hn:nth σ k with
  |none=>rw[hn]at hr;cases hr
  |some r'=>rw[hn]at hr;cases hr;rfl
 have hτ0: ∀ k r,nth (FC σ) k=some r→ ∃ r',nth σ k=some r'∧r= .c r':=fun k r hr=>by
  rw[Hy]at hr
  cases hn:nth σ k with
  |none=>rw[hn]at hr;cases hr
  |some r'=>rw[hn]at hr;cases hr;exact⟨r',rfl,rfl⟩
 have hsz:l.toArray.size=l.length:=by simp
 have hops: ∀ i o ii,l.toArray[i]? =some o→is[i]? =some ii→uj X.P X.n l.toArray Γ ρ (GL l.toArray is (fun _=>true) i) (G5 l.toArray is (FC σ) (fun _=>true) i) o ii:=g4
 have hacc:K9 (FC σ).length is=true:=by simpa[FC]using hc2
 simp only[cond_false]at hc3
 rw[List.range_eq_range',←hsz]
 refine Zq (c0:=X.c0) (E:=X.E) (df:=X.df) (τ:=FC σ) (n:=X.n) (Γ:=Γ) (ρ:=ρ) (is:=is) (by simpa using hc1) hacc hτ (by simpa using hc3) (by simpa using g1) hops (Um hc0) ?_ l.toArray.size 0 (by omega) a c obs ?_
 ·intro a' c' obs' hI
  exact(hI.fin (δ:=δ) (τ':=τ) (by rw[hsz];exact g2) (by rw[hsz];exact g3) (fun j hj=>by simpa using hj)).next h
 have hf:(fun j=>decide (j<0))=fun _:Nat=>false:=by funext j;simp
 rw[hf]
 refine ZS.start hst.size hst.defers hst.facts hst.env hown fun k r hr=>?_
 obtain⟨r',hr',rfl⟩:=hτ0 k r hr
 exact hres k r' hr'
theorem K7{l:List Oper}(h:JO X Γ ρ σ l Q):JN X Γ ρ σ (Exit.then (fun a w=>wpOps X.P l.toArray Q (List.range l.length) a w) Q .normal):=h
end seg
def PO(r:Res)(q p:SP):Prop:= ∀ c c1 ob v,r.H c ob→q.H v c→Le c c1→(∀ b,ob b→c1.w.heap[b]? =c.w.heap[b]? ∧ ¬c1.M b)→p.H v c1
theorem ka{u:Value}{cells:List SP}{T:TypeId}:PO (Dh u cells T) (DW u 0) (Gf cells):=fun c c1 ob v h hq hle hob=>by
 have h1:=Dv c c1 ob h hle hob
 obtain⟨b,cur,g1,_⟩:=h
 obtain⟨b',g2,g3⟩:=hq
 have:v=u:=by
  rcases g2 with g2|⟨_,_,g2⟩
  ·rw[g2]at g1;cases g1;rw[g3,g2]
  rw[g2]at g1;cases g1
 rw[this]
 exact h1
theorem kc{α:Type}{mk:α→SP}{u:Value}{xs:List α}{T:TypeId}:PO (DC u mk xs T) (CW u) (I2 mk xs):=fun c c1 ob v h hq hle hob=>by
 rw[hq.1];exact Dz c c1 ob h hle hob
def xM(Γ:D2)(δ:DK)(ρ:DU)(r:Res):List Operand→List SP→Prop
 |[],[]=>True
 |x::xs,p::ps=>(Lk Γ δ ρ x p∨ ∃ q,Lk Γ δ ρ x q∧PO r q p)∧xM Γ δ ρ r xs ps
 |_,_=>False
theorem xM.val{Γ:D2}{δ:DK}{ρ:DU}{r:Res}{a:Act}{c c1:EW}{ob:Bs}(hr:r.H c ob)(hle:Le c c1)(hob: ∀ b,ob b→c1.w.heap[b]? =c.w.heap[b]? ∧ ¬c1.M b): ∀ {xs:List Operand} {ps:List SP},xM Γ δ ρ r xs ps→(∀ x q,x∈xs→Lk Γ δ ρ x q→q.H (a.eval x) c)→HL ps (xs.map a.eval) c1
 |[],[],_,_=>trivial
 |x::xs,p::ps,⟨h1,h2⟩,h=>by
  refine⟨?_,xM.val hr hle hob h2 fun y q hy=>h y q (Bt _ hy)⟩
  rcases h1 with h1|⟨q,h1,h3⟩
  ·exact p.st _ _ _ hle (h x p (C4 ..) h1)
  exact h3 c c1 ob _ hr (h x q (C4 ..) h1) hle hob
 |[],_::_,h,_=>h.elim
 |_::_,[],h,_=>h.elim
section ops
variable {P:Program} {n:Nat} {ops:Array Oper} {Γ:D2} {ρ:DU} {δ:DK} {τ:List VR}
variable {d:Nat} {ty:TypeId} {pos:String} {af:Array Edge}
theorem O5{f:Nat}{xs:List Operand}{ps:List SP}{R:SP}{r:Res}{ats:Array TypeId}(k:Nat)(hf:Ct P f ps R)(hR:R.Pure)(hx:xM Γ δ ρ r xs ps)(hk:nth τ k=some (.c r)):
  OpOK P n ops Γ ρ δ τ ⟨some d,.call ⟨.value (.func f),xs.toArray,ats⟩,ty,pos,af,none⟩ (.rd k) (.c R) ET:=by
 intro a c ob hs hwf hfa hrr hres hno hown
 obtain⟨r0,hr0,hh⟩:=hres k rfl
 rw[hk]at hr0
 cases hr0
 have hh':r.H c ob:=hh
 let c1:EW:=⟨c.w,fun b=>c.M b∧ ¬ob b⟩
 have hle:Le c c1:=⟨rfl,rfl,rfl,A5 _,fun j _ hm=>⟨rfl,fun h=>hm h.1⟩⟩
 have harg:=hx.val (a:=a) (c:=c) (c1:=c1) hh' hle (fun b hb=>⟨rfl,fun h=>h.2 hb⟩) fun x q hx' hq=>Lk.val (o:=⟨some d,.call ⟨.value (.func f),xs.toArray,ats⟩,ty,pos,af,none⟩) hrr hfa (by simp[Op.operands,Call.operands,hx']) hq
 simp only[Region.wanted,if_true]
 unfold GP
 have hex:(execOp a.eval ⟨some d,.call ⟨.value (.func f),xs.toArray,ats⟩,ty,pos,af,none⟩).run P c.w= .ok (.enter f (xs.map a.eval).toArray) c.w:=by
  have h1:=EF hf.1 (xs.map a.eval).toArray c.w
  simp[execOp,resolve,Deferred.ofValue,Act.eval,invoke,h1]
 rw[hex]
 refine(hf.2 _ c1 (fun j hj=>hwf j hj.1) ⟨hfa.2.le hle,harg⟩).mono fun e w' ⟨v,he,hxt,hR'⟩=>⟨v,he,⟨w',c.M⟩,ob,rfl,?_,hR _ _ _ hR',fun h=>(by cases h)⟩
 exact⟨hxt.os,hxt.tape,hxt.out,hxt.size,fun j hj _=>hxt.heap j hj,fun _ _=>⟨id,.inl⟩,.inl rfl,fun j hj=>B4 (hwf j hj) hxt.size⟩
end ops
theorem NP{r1 r2 DO Lt:Res}(h1:Y3 r1 DO)(h2:Y3 r2 Lt):Y3 (r1.sep r2) (DO.sep Lt):=by
 rintro c c' ob ob' ⟨o1,o2,a1,a2,a3,a4⟩ ⟨p1,p2,b1,b2,b3,b4⟩
 have e1:=h1 c c' o1 p1 a3 b3
 have e2:=h2 c c' o2 p2 a4 b4
 funext b
 apply propext
 rw[a1,b1,e1,e2]
def UI(m:List Int)(w s i:Nat):Int:=((m.getD (w+i) 0+4294967296*m.getD (w+i+1) 0)/2^s) % 4294967296
def Og(m:List Int)(w s:Nat):List Int:=(List.range (m.length-w)).map (UI m w s)
theorem Hw(m:List Int)(w s:Nat):(Og m w s).length=m.length-w:=by unfold Og;simp
theorem mE(m:List Int)(w s:Nat):Fm (Og m w s):=fun z hz=>by
 unfold Og at hz
 obtain⟨i,_,rfl⟩:=List.mem_map.1 hz
 unfold UI
 omega
def PS(s:Nat):List Int→List Int
 |[]=>[]
 |x::t=>(((x+4294967296*t.getD 0 0)/2^s) % 4294967296)::PS s t
theorem PI(s:Nat): ∀ l:List Int,(PS s l).length=l.length
 |[]=>rfl
 |x::t=>by simp[PS,PI s t]
theorem cw(s:Nat): ∀ (l:List Int) (i:Nat),i<l.length→(PS s l).getD i 0=((l.getD i 0+4294967296*l.getD (i+1) 0)/2^s) % 4294967296
 |[],i,h=>by simp at h
 |x::t,0,_=>by simp[PS,List.getD]
 |x::t,i+1,h=>by
  have:=cw s t i (by simpa using h)
  simpa[PS,List.getD]using this
theorem Wt(s:Nat)(hs:s<32): ∀ {l:List Int},Fm l→CX (PS s l)=CX l/2^s
 |[],_=>by simp[PS,CX]
 |x::t,h=>by
  obtain⟨h1,h2,h3,_⟩:=Nl hs
  have hx:=h.head
  have ih:=Wt s hs h.tail
  have hT:=DR h.tail
  have hh: ∃ r:Int,CX t=t.getD 0 0+4294967296*r:=by
   cases t with
   |nil=>exact⟨0,by simp[CX]⟩
   |cons y t=>exact⟨CX t,by simp[CX]⟩
  obtain⟨r,hr⟩:=hh
  rw[PS,CX,CX,ih]
  generalize (2:Int)^s=q at*
  generalize (2:Int)^(32-s)=p at*
  generalize t.getD 0 0=y at*
  generalize CX t=T at*
  have hq:0<q:=by omega
  have e1:=Be T q
  have b1:=Ay T (show q≠0 by omega)
  have b2:=AB T hq
  have e2:T % q=y % q:=by
   rw[hr,show(4294967296:Int)*r=q*(p*r) by rw[←Aw,h3],CG]
  have e3:=Be y q
  rw[←e2]at e3
  generalize T % q=b at*
  generalize T/q=a at*
  generalize y/q=a' at*
  have f1:(x+4294967296*T)/q=4294967296*a+(x+4294967296*b)/q:=by
   rw[←e1,show x+4294967296*(b+q*a)=(x+4294967296*b)+q*(4294967296*a) by rw[Al,BV];omega,BI _ _ (by omega)]
   omega
  have f2:(x+4294967296*y)/q=4294967296*a'+(x+4294967296*b)/q:=by
   rw[←e3,show x+4294967296*(b+q*a')=(x+4294967296*b)+q*(4294967296*a') by rw[Al,BV];omega,BI _ _ (by omega)]
   omega
  have f3:0≤(x+4294967296*b)/q:=AY (by omega) (by omega)
  have f4:(x+4294967296*b)/q<4294967296:=by
   refine Bb hq ?_
   have:4294967296*(b+1)≤4294967296*q:=Ac (by omega) (by omega)
   omega
  rw[f1,f2]
  omega
theorem mF(m:List Int)(w s:Nat):Og m w s=PS s (m.drop w):=by
 apply List.ext_getElem
 ·rw[Hw,PI,AD]
 intro i h1 h2
 have h0:=h1
 rw[Hw]at h0
 have g1:(PS s (m.drop w)).getD i 0=(PS s (m.drop w))[i]:=by
  rw[List.getD,Ag h2];rfl
 have g2:(Og m w s)[i]=UI m w s i:=by
  have:(Og m w s)[i]? =some (UI m w s i):=by unfold Og;rw[AC,Ci (by omega)];rfl
  rw[Ag h1]at this
  exact Option.some.inj this
 rw[←g1,g2,cw s _ i (by rw[AD];exact h0)]
 unfold UI
 have d: ∀ j,(m.drop w).getD j 0=m.getD (w+j) 0:=fun j=>by rw[List.getD,List.getD,AF]
 rw[d,d,C6]
theorem qD{m:List Int}{w:Nat}(hw:w≤m.length):CX m=CX (m.take w)+DQ w*CX (m.drop w):=by
 have:=Gj (m.take w) (m.drop w)
 rw[Bu,A9,At hw]at this
 exact this
theorem rJ{m:List Int}{n:Nat}(hm:Fm m)(hw:n/32<m.length):CX (Og m (n/32) (n % 32))=CX m/2^n:=by
 rw[mF,Wt _ (Ap _ (by omega)) (hm.drop _)]
 have e1:=qD (m:=m) (w:=n/32) (by omega)
 have e2:(2:Int)^n=DQ (n/32)*2^(n % 32):=by rw[Qt,show 32*(n/32)+n % 32=n by omega]
 have h1:=DR (hm.take (n/32))
 have h2:=FJ (hm.take (n/32))
 rw[A9,At (by omega)]at h2
 have h3:=F9 (n/32)
 have h4:CX m/DQ (n/32)=CX (m.drop (n/32)):=by
  rw[e1,BI _ _ (by omega),Bv h1 h2]
  omega
 rw[e2,←Int.ediv_ediv_of_nonneg (by omega),h4]
theorem rH{m:List Int}{n:Nat}(hm:Fm m)(hw:m.length≤n/32):(CX m/2^n).toNat=0:=by
 have h1:=DR hm
 have h2:=FJ hm
 have h3:=G2 hw
 have e2:(2:Int)^n=DQ (n/32)*2^(n % 32):=by rw[Qt,show 32*(n/32)+n % 32=n by omega]
 have h4:=(Nl (show n % 32<32 from Ap _ (by omega))).1
 have h5:=F9 (n/32)
 have h6:DQ (n/32)*1≤DQ (n/32)*2^(n % 32):=Ac h4 (by omega)
 rw[Bv h1 (by rw[e2];omega)]
 rfl
def Pc(m:List Int)(w s i:Nat):List Int:=(Og m w s).take i++List.replicate (m.length-w-i) 0
theorem fN(m:List Int)(w s:Nat):Pc m w s 0=List.replicate (m.length-w) 0:=by unfold Pc;simp
theorem Pv{m:List Int}{w s i:Nat}(hi:i≤m.length-w):(Pc m w s i).length=m.length-w:=by
 unfold Pc
 rw[As,A9,Hw,Am]
 omega
theorem Xf{m:List Int}{w s i:Nat}{z:Int}(hi:i<m.length-w)(hz:z=UI m w s i):(Pc m w s i).set i z=Pc m w s (i+1):=by
 unfold Pc
 have e:((Og m w s).take i).length=i:=by rw[A9,Hw];omega
 rw[List.set_append_right _ _ (by omega),e,Cb,show m.length-w-i=(m.length-w-(i+1))+1 by omega,C5,List.set_cons_zero]
 rw[GA 0 (show i<(Og m w s).length by rw[Hw];exact hi),Bg]
 congr 2
 rw[hz]
 unfold Og
 rw[List.getD,AC,Ci (by omega)]
 rfl
theorem mG{m:List Int}{w s i:Nat}(hi:i=m.length-w):Pc m w s i=Og m w s:=by
 unfold Pc
 rw[hi,Cb,AN (by rw[Hw];exact A5 _)]
 simp
theorem a1l{x y:Int}(hx:0≤x∧x<4294967296)(hy:0≤y∧y<4294967296):Ej .or .u64 x (IntKind.u64.wrap (y*2^min (32:Int).toNat IntKind.u64.bits))=x+4294967296*y:=by
 obtain⟨a,rfl⟩: ∃ n:Nat,x=n:=⟨x.toNat,by omega⟩
 obtain⟨b,rfl⟩: ∃ n:Nat,y=n:=⟨y.toNat,by omega⟩
 have e:IntKind.u64.wrap ((b:Int)*2^min (32:Int).toNat IntKind.u64.bits)=((b*2^32:Nat):Int):=by
  rw[show min (32:Int).toNat IntKind.u64.bits=32 by decide,Nt]
  have:((2:Int)^32)=4294967296:=by decide
  have h2:(2:Nat)^32=4294967296:=by decide
  rw[this,h2]
  omega
 have h2:(2:Nat)^32=4294967296:=by decide
 rw[e,KQ _ _ (by omega) (by omega),Nat.or_comm,Z9 b a 32 (by omega)]
 omega
theorem nk{x:Int}{s:Nat}(hs:s<32):x.fdiv (2^min ((s:Nat):Int).toNat IntKind.u64.bits)=x/2^s:=by
 have e:min ((s:Nat):Int).toNat IntKind.u64.bits=s:=by
  show min s 64=s
  omega
 rw[e]
 exact Bw x (by have:=(Nl hs).1;omega)
theorem dQ{m:List Int}{k:Nat}(h:m.length≤k):m.getD k 0=0:=by
 rw[List.getD,AT h];rfl
def bl(m:Nat):Nat:=if m=0 then 0 else m.log2+1
theorem oR:bl 0=0:=rfl
theorem MY{m:Nat}(h:m≠0):bl m=m.log2+1:=if_neg h
theorem QJ{t k:Nat}(h:2^k≤t):bl t=k+bl (t/2^k):=by
 have hp:=Ax k
 have h0:t≠0:=by omega
 have h1:t/2^k≠0:=by have:=Nat.div_pos h hp;omega
 rw[MY h0,MY h1]
 have a1:=Nat.log2_self_le h1
 have a2:=Nat.lt_log2_self (n:=t/2^k)
 have:t.log2=k+(t/2^k).log2:=by
  rw[Nat.log2_eq_iff h0]
  constructor
  ·rw[Bd]
   exact Ak (Nat.mul_le_mul_left _ a1) (Nat.mul_div_le _ _)
  rw[show k+(t/2^k).log2+1=((t/2^k).log2+1)+k by omega,Bd]
  exact(CC hp).1 a2
 omega
theorem QI{t k:Nat}(h:t<2^k):bl t≤k:=by
 by_cases h0:t=0
 ·rw[h0,oR];omega
 rw[MY h0]
 have:=(Nat.log2_lt h0).2 h
 omega
theorem VA{t k:Nat}(h:bl t≤k):t<2^k:=by
 by_cases h0:t=0
 ·rw[h0];exact Ax k
 rw[MY h0]at h
 exact(Nat.log2_lt h0).1 (by omega)
theorem tb{t k:Nat}(h:2^k≤t):k<bl t:=by
 by_cases hc:bl t≤k
 ·have:=VA hc;omega
 omega
theorem iI(n:Nat):(bl n:Int)=if(CR n).length=0 then 0 else 32*((CR n).length-1:Int)+(bl ((CR n).getD ((CR n).length-1) 0).toNat:Int):=by
 by_cases h0:(CR n).length=0
 ·rw[if_pos h0];rw[Fo]at h0;rw[h0];rfl
 rw[if_neg h0]
 obtain⟨k,hk⟩: ∃ k,(CR n).length=k+1:=⟨(CR n).length-1,by omega⟩
 have hd:=D8 n
 have ht:=JW n
 have g1:=hd.at (k:=k) (by omega)
 have g2:(CR n).getD k 0≠0:=by
  rcases ht with h|h
  ·rw[h]at h0;exact(h0 rfl).elim
  rw[hk]at h;exact h
 have e1:=F4 (l:=CR n) (k:=k) (by omega)
 rw[AN (by omega),Dt]at e1
 have a1:=DR (hd.take k)
 have a2:=FJ (hd.take k)
 rw[A9,At (by omega)]at a2
 obtain⟨t,htt⟩: ∃ t:Nat,(CR n).getD k 0=t:=⟨((CR n).getD k 0).toNat,by omega⟩
 rw[hk,show k+1-1=k by omega,htt,Ar]
 rw[htt]at e1 g2
 have ew:DQ k=((2^(32*k):Nat):Int):=by
  have:=Qt k 0
  simp only[Int.pow_zero,AZ,Bx]at this
  rw[this];simp
 rw[ew]at e1 a2
 obtain⟨lo,hlo⟩: ∃ lo:Nat,CX ((CR n).take k)=lo:=⟨_,(Int.toNat_of_nonneg a1).symm⟩
 rw[hlo]at e1 a2
 have e2:n=lo+2^(32*k)*t:=by rw[←Ad]at e1;omega
 have hp:=Ax (32*k)
 have e3:n/2^(32*k)=t:=by
  rw[e2,Nat.add_mul_div_left _ _ hp,Cn (by omega)]
  omega
 have h1:2^(32*k)*1≤2^(32*k)*t:=Nat.mul_le_mul_left _ (by omega)
 have:=QJ (t:=n) (k:=32*k) (by omega)
 rw[e3]at this
 omega
theorem To.freezeM{P:Program}{n:Nat}{c0:EW}{ob0:Bs}{Γ:D2}{ρ:DU}{σ:List Res}(k j0:Nat){r0 r0' r:Res}{v:Value}{p:SP}(hr0:r0.H c0 ob0)(hfix:Y3 r0 r0')(hj0:nth σ j0=some r0')(hne:Nat.beq k j0=false)(hr:nth σ k=some r)(hf:KO r v p){σ':List Res}(hσ':EK σ k Go.Bn.emp=σ'):To ⟨P,n,c0,fun b=>ob0 b,[]⟩ Γ ρ σ ((v,p)::Γ) ρ σ':=by
 subst hσ'
 intro a c hs
 obtain⟨obs,hown,hres⟩:=hs.own
 let c':EW:=⟨c.w,fun b=>c.M b∧ ¬obs k b⟩
 have hle:Le c c':=⟨rfl,rfl,rfl,A5 _,fun j _ hm=>⟨rfl,fun h=>hm h.1⟩⟩
 refine⟨c',rfl,hs.size,hs.defers,⟨?_,hs.facts.2.le hle⟩,fun t q hq=>q.st _ _ _ hle (hs.env t q hq),fun j=>if j=k then Ix else obs j,?_,?_⟩
 ·intro v' p' hm
  rcases AH.1 hm with he|hm
  ·cases he
   exact hf c c' (obs k) (hres k r hr) hle fun b hb=>⟨rfl,fun h=>h.2 hb⟩
  exact p'.st _ _ _ hle (hs.facts.1 v' p' hm)
 ·refine⟨hown.os,hown.tape,hown.out,hown.size,hown.heap,fun j hj=>?_,fun j hj=>hown.wf j hj.1,fun j b hb=>?_,fun i j b hi hj=>?_,hown.wf0⟩
  ·refine⟨fun h=>(hown.mem j hj).1 h.1,fun h=>((hown.mem j hj).2 h).elim (fun h=>?_) .inr⟩
   by_cases e:obs k j
   ·rcases(hown.has k j e).2 with h'|h'
    ·omega
    exact .inr h'
   exact .inl ⟨h,e⟩
  ·by_cases hjk:j=k
   ·simp only[if_pos hjk]at hb;cases hb
   simp only[if_neg hjk]at hb
   exact⟨⟨(hown.has j b hb).1,fun e=>hjk (hown.one j k b hb e)⟩,(hown.has j b hb).2⟩
  by_cases hik:i=k
  ·simp only[if_pos hik]at hi;cases hi
  by_cases hjk:j=k
  ·simp only[if_pos hjk]at hj;cases hj
  simp only[if_neg hik]at hi
  simp only[if_neg hjk]at hj
  exact hown.one i j b hi hj
 intro j r' hj
 rw[G3]at hj
 by_cases hjk:j=k
 ·rw[if_pos hjk]at hj
  simp only[if_pos hjk]
  cases hn:nth σ j with
  |none=>rw[hn]at hj;cases hj
  |some x=>rw[hn]at hj;cases hj;rfl
 rw[if_neg hjk]at hj
 simp only[if_neg hjk]
 exact r'.fr _ _ _ hle (fun _ _=>rfl) (hres j r' hj)
def CS:List Int→Int
 |[]=>0
 |x::l=>x+18446744073709551616*CS l
def DJ(l:List Int):Prop:= ∀ z,z∈l→0≤z∧z<18446744073709551616
def Dg(k:Nat):Int:=18446744073709551616^k
theorem GC:Dg 0=1:=rfl
theorem Em(k:Nat):Dg (k+1)=18446744073709551616*Dg k:=by unfold Dg;rw[Int.pow_succ,Ab]
theorem Er: ∀ k:Nat,1≤Dg k
 |0=>by rw[GC];omega
 |k+1=>by have:=Er k;rw[Em];omega
theorem JG(a b:Nat):Dg (a+b)=Dg a*Dg b:=by unfold Dg;exact Int.pow_add ..
theorem G1: ∀ l m:List Int,CS (l++m)=CS l+Dg l.length*CS m
 |[],m=>by simp[CS,GC]
 |x::l,m=>by
  rw[List.cons_append,CS,G1 l m,CS,AG,Em,Al,Aw]
  omega
theorem Kv(z:Int):CS [z]=z:=by simp[CS]
theorem Nb(l:List Int)(z:Int):CS (l++ [z])=CS l+Dg l.length*z:=by rw[G1,Kv]
theorem DJ.tail{x:Int}{l:List Int}(h:DJ (x::l)):DJ l:=fun z hz=>h z (Bt _ hz)
theorem DJ.head{x:Int}{l:List Int}(h:DJ (x::l)):0≤x∧x<18446744073709551616:=h x (C4 ..)
theorem DJ.at{l:List Int}(h:DJ l){k:Nat}(hk:k<l.length):0≤l.getD k 0∧l.getD k 0<18446744073709551616:=h _ (IJ 0 hk)
theorem DJ.take{l:List Int}(h:DJ l)(k:Nat):DJ (l.take k):=fun z hz=>h z (CA hz)
theorem DJ.drop{l:List Int}(h:DJ l)(k:Nat):DJ (l.drop k):=fun z hz=>h z (List.mem_of_mem_drop hz)
theorem DJ.set{l:List Int}(h:DJ l){k:Nat}{v:Int}(hv:0≤v∧v<18446744073709551616):DJ (l.set k v):=fun z hz=>by
 rcases List.mem_or_eq_of_mem_set hz with h1|h1
 ·exact h z h1
 rw[h1];exact hv
theorem VI:DJ []:=fun z hz=>by cases hz
theorem IE(n:Nat):DJ (List.replicate n 0):=fun z hz=>by rw[(List.mem_replicate.1 hz).2];omega
theorem Ml: ∀ n:Nat,CS (List.replicate n 0)=0
 |0=>rfl
 |n+1=>by rw[C5,CS,Ml n];omega
theorem DG: ∀ {l:List Int},DJ l→0≤CS l
 |[],_=>by simp[CS]
 |x::l,h=>by have:=DG h.tail;have:=h.head;rw[CS];omega
theorem Ex: ∀ {l:List Int},DJ l→CS l<Dg l.length
 |[],_=>by simp[CS,GC]
 |x::l,h=>by have:=Ex h.tail;have:=h.head;rw[CS,AG,Em];omega
def CQ(n:Nat):List Int:=if h:n=0 then []else((n % 18446744073709551616:Nat):Int)::CQ (n/18446744073709551616)
termination_by n
decreasing_by exact BE (by omega) (by omega)
theorem DZ:CQ 0=[]:=by rw[CQ];simp
theorem Hn{n:Nat}(h:n≠0):CQ n=((n % 18446744073709551616:Nat):Int)::CQ (n/18446744073709551616):=by rw[CQ];simp[h]
theorem D9: ∀ n:Nat,DJ (CQ n):=by
 intro n
 induction n using Nat.strongRecOn with
 |_ n ih=>
  by_cases h:n=0
  ·rw[h,DZ];exact VI
  rw[Hn h]
  intro z hz
  rcases AH.1 hz with rfl|hz
  ·omega
  exact ih _ (BE (by omega) (by omega)) z hz
theorem Do: ∀ n:Nat,CS (CQ n)=n:=by
 intro n
 induction n using Nat.strongRecOn with
 |_ n ih=>
  by_cases h:n=0
  ·rw[h,DZ];rfl
  rw[Hn h,CS,ih _ (BE (by omega) (by omega))]
  omega
theorem F2{n:Nat}:(CQ n).length=0↔n=0:=by
 constructor
 ·intro h
  have:=Do n
  rw[BC.1 h,CS]at this
  omega
 rintro rfl;rw[DZ];rfl
def QC(l:List Int):Prop:=l=[]∨l.getD (l.length-1) 0≠0
theorem XL{x y:Int}{l:List Int}(h:QC (x::y::l)):QC (y::l):=by
 rcases h with h|h
 ·cases h
 right
 simpa[List.getD]using h
theorem OU: ∀ {l:List Int},DJ l→QC l→CQ (CS l).toNat=l
 |[],_,_=>by simp[CS,DZ]
 |[x],hd,ht=>by
  have h1:=hd.head
  have h2:x≠0:=by
   rcases ht with h|h
   ·cases h
   simpa using h
  rw[Kv,Hn (by omega),show x.toNat/18446744073709551616=0 by omega,DZ]
  congr 1;omega
 |x::y::l,hd,ht=>by
  have ih:=OU hd.tail (XL ht)
  have h1:=hd.head
  have h3:=DG hd.tail
  have h4:(CS (y::l)).toNat≠0:=by
   intro e
   rw[e,DZ]at ih
   cases ih
  rw[CS]
  generalize CS (y::l)=m at*
  rw[Hn (by omega),show(x+18446744073709551616*m).toNat/18446744073709551616=m.toNat by omega,ih]
  congr 1;omega
theorem J9(n:Nat):QC (CQ n):=by
 induction n using Nat.strongRecOn with
 |_ n ih=>
  by_cases h:n=0
  ·left;rw[h,DZ]
  right
  have ih2:=ih _ (BE (show 0<n by omega) (show 1<18446744073709551616 by omega))
  rw[Hn h]
  by_cases h2:n/18446744073709551616=0
  ·rw[h2,DZ]
   simp[List.getD]
   omega
  rcases ih2 with h3|h3
  ·have:=F2 (n:=n/18446744073709551616)
   rw[h3]at this
   simp at this
   omega
  have hl:0<(CQ (n/18446744073709551616)).length:=by
   rcases BN (CQ (n/18446744073709551616)).length with h4|h4
   ·exact absurd (F2.1 h4) h2
   exact h4
  rw[AG,show(CQ (n/18446744073709551616)).length+1-1=((CQ (n/18446744073709551616)).length-1)+1 by omega]
  simpa[List.getD]using h3
theorem dH{l:List Int}{k:Nat}(hk:k<l.length)(hz:l.getD k 0=0):CS (l.take k)=CS (l.take (k+1)):=by
 rw[Mx hk,Nb,hz];omega
theorem SO{l:List Int}{k:Nat}(hd:DJ l)(hk:k≤l.length)(hm:CS (l.take k)=CS l)(h:k=0∨l.getD (k-1) 0≠0):l.take k=CQ (CS l).toNat:=by
 rw[←hm]
 refine(OU (hd.take k) ?_).symm
 by_cases h0:k=0
 ·left;rw[h0];rfl
 right
 rcases h with h|h
 ·exact absurd h h0
 have e:(l.take k).length=k:=by rw[A9];omega
 rw[e]
 obtain⟨j,rfl⟩: ∃ j,k=j+1:=⟨k-1,by omega⟩
 rw[show j+1-1=j by omega]at h⊢
 rw[Jt (by omega)]
 exact h
theorem Gy{l:List Int}{k:Nat}{v:Int}(hk:k<l.length):CS ((l.set k v).take (k+1))=CS (l.take k)+Dg k*v:=by
 rw[Xr hk,Nb,A9,At (by omega)]
theorem EN{l:List Int}{k:Nat}(hk:k<l.length):CS (l.take (k+1))=CS (l.take k)+Dg k*l.getD k 0:=by
 rw[Mx hk,Nb,A9,At (by omega)]
def Gi(b:List Int)(k:Nat):Int:=if k<b.length then b.getD k 0 else 0
theorem H1{b:List Int}(hb:DJ b)(k:Nat):0≤Gi b k∧Gi b k<18446744073709551616:=by
 unfold Gi
 split
 ·rename_i g;exact hb.at g
 omega
theorem N0(b:List Int)(k:Nat):CS (b.take (k+1))=CS (b.take k)+Dg k*Gi b k:=by
 unfold Gi
 split
 ·rename_i g;exact EN g
 rename_i g
 rw[Du (show b.length≤k+1 by omega),Du (show b.length≤k by omega)]
 omega
structure Vj(a b l:List Int)(k:Nat)(c:Int):Prop where
 hk:k≤a.length
 hl:l.length=a.length
 hd:DJ l
 hc:0≤c∧c≤1
 hm:CS (l.take k)=CS (a.take k) -CS (b.take k)+Dg k*c
theorem eu{a b:List Int}{m:Nat}(hm:m=a.length):Vj a b (List.replicate m 0) 0 0:=by
 subst hm
 exact⟨A7 _,by rw[Am],IE _,by omega,by simp[CS]⟩
theorem er{a b l:List Int}{k:Nat}{c v c':Int}(ha:DJ a)(hb:DJ b)(h:Vj a b l k c)(hk:k<a.length)(hc:c'=0∨c'=1)(hv:0≤v∧v<18446744073709551616)(he:v=a.getD k 0-(c+Gi b k)+18446744073709551616*c'):Vj a b (l.set k v) (k+1) c':=by
 obtain⟨h1,h2,h3,h4,h5⟩:=h
 refine⟨by omega,by rw[Aa];exact h2,h3.set hv,by omega,?_⟩
 rw[Gy (by omega),EN hk,N0,Em,h5]
 have e:Dg k*v=Dg k*a.getD k 0-(Dg k*c+Dg k*Gi b k)+18446744073709551616*Dg k*c':=by
  rw[he,Al,Int.mul_sub,Al,Ab 18446744073709551616 (Dg k),Aw]
 omega
theorem eo{a b l:List Int}{k:Nat}{c:Int}(ha:DJ a)(hb:DJ b)(hab:b.length≤a.length)(hle:CS b≤CS a)(h:Vj a b l k c)(hk:k=a.length):DJ l∧CS l=CS a-CS b:=by
 obtain⟨h1,h2,h3,h4,h5⟩:=h
 subst hk
 rw[Du (by omega),Du (A5 _),Du hab]at h5
 have h6:=Ex h3
 rw[h2]at h6
 have h7:c=0:=by
  rcases(show c=0∨c=1 by omega)with h|h
  ·exact h
  subst h;omega
 subst h7
 exact⟨h3,by omega⟩
theorem JY{l:List Int}{j:Nat}(hj:j<l.length):CS l=CS (l.take j)+Dg j*(l.getD j 0+18446744073709551616*CS (l.drop (j+1))):=by
 have e:l=l.take j++(l.getD j 0::l.drop (j+1)):=by
  rw[List.getD,Ag hj,Cc,←BZ hj,Bu]
 conv=>lhs;rw[e]
 rw[G1,CS,A9,At (by omega)]
theorem Ta{a b:List Int}{j:Nat}(ha:DJ a)(hb:DJ b)(hja:j<a.length)(hjb:j<b.length)(hd:a.drop (j+1)=b.drop (j+1))(hlt:a.getD j 0<b.getD j 0):CS a<CS b:=by
 have h1:=Ex (ha.take j)
 rw[A9,At (by omega)]at h1
 have h2:=DG (hb.take j)
 rw[JY hja,JY hjb,hd]
 have h3:Dg j*(a.getD j 0+1+18446744073709551616*CS (b.drop (j+1)))≤Dg j*(b.getD j 0+18446744073709551616*CS (b.drop (j+1))):=Ac (by omega) (by have:=Er j;omega)
 rw[show a.getD j 0+1+18446744073709551616*CS (b.drop (j+1))=(a.getD j 0+18446744073709551616*CS (b.drop (j+1)))+1 by omega,Al,AZ]at h3
 omega
theorem H6{a b:Nat}(h:a≤b):Dg a≤Dg b:=by
 obtain⟨d,rfl⟩: ∃ d,b=a+d:=⟨b-a,by omega⟩
 rw[JG]
 have h1:=Er a
 have h2:=Er d
 have:=Ac (show(1:Int)≤Dg d by omega) (show(0:Int)≤Dg a by omega)
 omega
theorem Tv{l:List Int}(hd:DJ l)(ht:QC l)(h0:0<l.length):Dg (l.length-1)≤CS l:=by
 rcases ht with ht|ht
 ·rw[ht]at h0;simp at h0
 have h1:=hd.at (k:=l.length-1) (by omega)
 have h2:=DG (hd.take (l.length-1))
 have h3:=DG (hd.drop (l.length-1+1))
 rw[JY (l:=l) (j:=l.length-1) (by omega)]
 have h4:=Er (l.length-1)
 have h5:=Ac (show(1:Int)≤l.getD (l.length-1) 0+18446744073709551616*CS (l.drop (l.length-1+1)) by omega) (show(0:Int)≤Dg (l.length-1) by omega)
 omega
theorem Mi{x y:Nat}(h:(CQ x).length<(CQ y).length):x<y:=by
 have h1:=Ex (D9 x)
 have h2:=Tv (D9 y) (J9 y) (by omega)
 rw[Do]at h1 h2
 have h3:=H6 (show(CQ x).length≤(CQ y).length-1 by omega)
 omega
theorem oW{x y:Nat}(h:(CQ x).length<(CQ y).length): -1=GS x y:=by
 have:=Mi h
 unfold GS;rw[if_pos this]
theorem oX{x y:Nat}(h:(CQ y).length<(CQ x).length):1=GS x y:=by
 have:=Mi h
 unfold GS;rw[if_neg (by omega),if_pos this]
theorem oY{x y k:Nat}(hl:(CQ x).length=(CQ y).length)(h:QD (CQ x) (CQ y) (k+1))(h1:(CQ x).getD k 0<(CQ y).getD k 0): -1=GS x y:=by
 obtain⟨g1,g2⟩:=h
 have:=Ta (D9 x) (D9 y) (by omega) (by omega) g2 h1
 rw[Do,Do]at this
 unfold GS;rw[if_pos (by omega)]
theorem oZ{x y k:Nat}(hl:(CQ x).length=(CQ y).length)(h:QD (CQ x) (CQ y) (k+1))(h1:(CQ y).getD k 0<(CQ x).getD k 0):1=GS x y:=by
 obtain⟨g1,g2⟩:=h
 have:=Ta (D9 y) (D9 x) (by omega) (by omega) g2.symm h1
 rw[Do,Do]at this
 unfold GS;rw[if_neg (by omega),if_pos (by omega)]
theorem pc{x y k:Nat}(h:QD (CQ x) (CQ y) k)(hk:k=0):0=GS x y:=by
 subst hk
 obtain⟨_,g2⟩:=h
 rw[B7,B7]at g2
 have e:=congrArg CS g2
 rw[Do,Do]at e
 unfold GS;rw[if_neg (by omega),if_neg (by omega)]
theorem iZ{l:List Int}{k:Nat}(hk:k≤l.length)(h0:0<k)(hz:l.getD (k-1) 0=0)(hm:CS (l.take k)=CS l):CS (l.take (k-1))=CS l:=by
 obtain⟨j,rfl⟩: ∃ j,k=j+1:=⟨k-1,by omega⟩
 rw[show j+1-1=j by omega]at hz⊢
 rw[dH (by omega) hz]
 exact hm
structure QA(m l:List Int)(w:Nat)(p:Int)(i:Nat):Prop where
 hi:i≤m.length
 hl:l.length=w+m.length+1
 hd:DJ l
 hz: ∀ j,w+i<j→l.getD j 0=0
 hp:l.getD (w+i) 0<p
 hm:CS (l.take (w+i+1))=Dg w*(p*CS (m.take i))
theorem T3{m:List Int}{w n:Nat}{p:Int}(hn:n=w+m.length+1)(hp:1≤p):QA m (List.replicate n 0) w p 0:=by
 subst hn
 have e: ∀ j,(List.replicate (w+m.length+1) (0:Int)).getD j 0=0:=fun j=>by
  rw[List.getD,List.getElem?_replicate];split<;>rfl
 refine⟨A7 _,by rw[Am],IE _,fun j _=>e j,by rw[e];omega,?_⟩
 rw[List.take_replicate,Ml]
 simp[CS]
theorem Rl{x p q:Int}(hx:0≤x∧x<18446744073709551616)(hp:1≤p)(hq:1≤q)(hpq:p*q=18446744073709551616):0≤(x*p) % 18446744073709551616∧(x*p) % 18446744073709551616≤18446744073709551616-p∧0≤(x*p)/18446744073709551616∧(x*p)/18446744073709551616<p∧(x*p) % 18446744073709551616=p*(x % q):=by
 have e1:(x*p) % 18446744073709551616=p*(x % q):=by rw[←hpq,Ab x p,Int.mul_emod_mul_of_pos _ _ (by omega)]
 have e2:(x*p)/18446744073709551616=x/q:=by rw[←hpq,Ab x p,Int.mul_ediv_mul_of_pos _ _ (by omega)]
 have h1:=Ay x (show q≠0 by omega)
 have h2:=AB x (show 0<q by omega)
 have h3:0≤p*(x % q):=Ae (by omega) h1
 have h4:p*(x % q+1)≤p*q:=Ac (by omega) (by omega)
 rw[Al,AZ]at h4
 have h5:0≤x/q:=AY hx.1 (by omega)
 have h6:x/q<p:=Bb (by omega) (by rw[hpq];exact hx.2)
 rw[e1,e2]
 omega
theorem T2{m l:List Int}{w i:Nat}{p q x t:Int}(hm:DJ m)(h:QA m l w p i)(hi:i<m.length)(hp:1≤p)(hq:1≤q)(hpq:p*q=18446744073709551616)(hx:x=m.getD i 0)(ht:t=x*p):
  QA m ((l.set (w+i) (l.getD (w+i) 0+t % 18446744073709551616)).set (w+i+1) (t/18446744073709551616)) w p (i+1):=by
 obtain⟨h1,h2,h3,h4,h5,h6⟩:=h
 have g1:=hm.at hi
 rw[←hx]at g1
 obtain⟨b1,b2,b3,b4,_⟩:=Rl g1 hp hq hpq
 rw[←ht]at b1 b2 b3 b4
 have g2:=h3.at (k:=w+i) (by omega)
 have d1:DJ (l.set (w+i) (l.getD (w+i) 0+t % 18446744073709551616)):=h3.set (by omega)
 refine⟨by omega,by rw[Aa,Aa];exact h2,d1.set (by omega),fun j hj=>?_,?_,?_⟩
 ·rw[getD_set_ne (by omega),getD_set_ne (by omega)]
  exact h4 j (by omega)
 ·rw[show w+(i+1)=w+i+1 by omega,Hu (by rw[Aa];omega)]
  exact b4
 rw[show w+(i+1)+1=w+i+1+1 by omega,Gy (by rw[Aa];omega),Gy (by omega)]
 rw[EN (show w+i<l.length by omega)]at h6
 have e2:Dg (w+i)*(t % 18446744073709551616)+Dg (w+i+1)*(t/18446744073709551616)=Dg (w+i)*t:=by
  have:=Be t 18446744073709551616
  rw[Em,Ab 18446744073709551616 (Dg (w+i)),Aw,←Al,this]
 have e3:Dg w*(p*CS (m.take (i+1)))=Dg w*(p*CS (m.take i))+Dg (w+i)*t:=by
  rw[EN hi,←hx,ht,Al,Al,JG,Aw (Dg w) (Dg i),Ab x p,BV p (Dg i)]
 rw[e3,←h6,Al]
 omega
theorem T1{m l:List Int}{w i:Nat}{p:Int}(h:QA m l w p i)(hi:i=m.length):DJ l∧CS l=Dg w*(p*CS m):=by
 subst hi
 have:=h.hm
 rw[Du (by rw[h.hl];exact A5 _),Du (A5 _)]at this
 exact⟨h.hd,this⟩
theorem HQ{s:Nat}(hs:s<64):(1:Int)≤2^s∧(1:Int)≤2^(64-s)∧(2:Int)^s*2^(64-s)=18446744073709551616∧(2:Int)^s≤9223372036854775808:=by
 have: ∀ s:Nat,s<64→(1:Int)≤2^s∧(1:Int)≤2^(64-s)∧(2:Int)^s*2^(64-s)=18446744073709551616∧(2:Int)^s≤9223372036854775808:=by decide+kernel
 exact this s hs
theorem M3(w s:Nat):Dg w*2^s=2^(64*w+s):=by
 unfold Dg
 rw[Int.pow_add,Int.pow_mul]
 rfl
theorem FR{x k:Nat}(h:(x:Int)<Dg k):(CQ x).length≤k:=by
 rcases BN (CQ x).length with h0|h0
 ·omega
 have h1:=Tv (D9 x) (J9 x) h0
 rw[Do]at h1
 by_cases hc:(CQ x).length≤k
 ·exact hc
 have:=H6 (show k≤(CQ x).length-1 by omega)
 omega
theorem Wf(n:Nat)(M:Int):Dg (n/64)*(2^(n % 64)*M)=M*2^n:=by
 rw[←Aw,M3,show 64*(n/64)+n % 64=n by omega,Ab]
abbrev GT(z:Int):List SP:=[CW (.bool (decide (z<0))),DP .u64 (CQ z.natAbs)]
abbrev Rd(z:Int):SP:=Gf (GT z)
theorem Nn(b:Bool)(M:Nat):[CW (.bool (b&&CT .gtr (((CQ M).length:Nat):Int) 0)),DP .u64 (CQ M)]=GT (Ds b M):=by
 have e:(b&&CT .gtr (((CQ M).length:Nat):Int) 0)=decide (Ds b M<0):=by
  have h:=F2 (n:=M)
  unfold Ds
  by_cases h0:M=0
  ·subst h0
   rw[h.2 rfl]
   cases b<;>decide
  have h1:(CQ M).length≠0:=fun e=>h0 (h.1 e)
  cases b
  ·simp
  simp[CT];omega
 rw[e]
 show _=[_,DP .u64 (CQ (Ds b M).natAbs)]
 rw[KH]
structure Yk(x:Int):Prop where
 h:((x.natAbs:Nat):Int)<Dg 1000000000
theorem S3{x:Int}(h:Yk x):(CQ x.natAbs).length≤250000000000:=Ak (FR h.h) (by omega)
theorem kC(x y:Nat):(CS (CQ x)+CS (CQ y)).toNat=x+y:=by rw[Do,Do];omega
theorem Wv{x y:Nat}(h:y≤x):(CS (CQ x) -CS (CQ y)).toNat=x-y:=by rw[Do,Do];omega
theorem kF(x n:Nat):(CS (CQ x)*2^n).toNat=x*2^n:=by
 rw[Do]
 have e:(x:Int)*2^n=((x*2^n:Nat):Int):=by rw[Ad];simp
 rw[e];omega
theorem Mh{x y:Nat}(h:y≤x):(CQ y).length≤(CQ x).length:=by
 by_cases hc:(CQ y).length≤(CQ x).length
 ·exact hc
 have:=Mi (x:=x) (y:=y) (by omega);omega
theorem Mm{x y:Nat}(h:y≤x):CS (CQ y)≤CS (CQ x):=by rw[Do,Do];omega
def LR(m:List Int)(w s i:Nat):Int:=((m.getD (w+i) 0+18446744073709551616*m.getD (w+i+1) 0)/2^s) % 18446744073709551616
def J7(m:List Int)(w s:Nat):List Int:=(List.range (m.length-w)).map (LR m w s)
theorem H2(m:List Int)(w s:Nat):(J7 m w s).length=m.length-w:=by unfold J7;simp
theorem Tg(m:List Int)(w s:Nat):DJ (J7 m w s):=fun z hz=>by
 unfold J7 at hz
 obtain⟨i,_,rfl⟩:=List.mem_map.1 hz
 unfold LR
 omega
def Lj(s:Nat):List Int→List Int
 |[]=>[]
 |x::t=>(((x+18446744073709551616*t.getD 0 0)/2^s) % 18446744073709551616)::Lj s t
theorem Oo(s:Nat): ∀ l:List Int,(Lj s l).length=l.length
 |[]=>rfl
 |x::t=>by simp[Lj,Oo s t]
theorem Xw(s:Nat): ∀ (l:List Int) (i:Nat),i<l.length→(Lj s l).getD i 0=((l.getD i 0+18446744073709551616*l.getD (i+1) 0)/2^s) % 18446744073709551616
 |[],i,h=>by simp at h
 |x::t,0,_=>by simp[Lj,List.getD]
 |x::t,i+1,h=>by
  have:=Xw s t i (by simpa using h)
  simpa[Lj,List.getD]using this
theorem T9(s:Nat)(hs:s<64): ∀ {l:List Int},DJ l→CS (Lj s l)=CS l/2^s
 |[],_=>by simp[Lj,CS]
 |x::t,h=>by
  obtain⟨h1,h2,h3,_⟩:=HQ hs
  have hx:=h.head
  have ih:=T9 s hs h.tail
  have hT:=DG h.tail
  have hh: ∃ r:Int,CS t=t.getD 0 0+18446744073709551616*r:=by
   cases t with
   |nil=>exact⟨0,by simp[CS]⟩
   |cons y t=>exact⟨CS t,by simp[CS]⟩
  obtain⟨r,hr⟩:=hh
  rw[Lj,CS,CS,ih]
  generalize (2:Int)^s=q at*
  generalize (2:Int)^(64-s)=p at*
  generalize t.getD 0 0=y at*
  generalize CS t=T at*
  have hq:0<q:=by omega
  have e1:=Be T q
  have b1:=Ay T (show q≠0 by omega)
  have b2:=AB T hq
  have e2:T % q=y % q:=by
   rw[hr,show(18446744073709551616:Int)*r=q*(p*r) by rw[←Aw,h3],CG]
  have e3:=Be y q
  rw[←e2]at e3
  generalize T % q=b at*
  generalize T/q=a at*
  generalize y/q=a' at*
  have f1:(x+18446744073709551616*T)/q=18446744073709551616*a+(x+18446744073709551616*b)/q:=by
   rw[←e1,show x+18446744073709551616*(b+q*a)=(x+18446744073709551616*b)+q*(18446744073709551616*a) by rw[Al,BV];omega,BI _ _ (by omega)]
   omega
  have f2:(x+18446744073709551616*y)/q=18446744073709551616*a'+(x+18446744073709551616*b)/q:=by
   rw[←e3,show x+18446744073709551616*(b+q*a')=(x+18446744073709551616*b)+q*(18446744073709551616*a') by rw[Al,BV];omega,BI _ _ (by omega)]
   omega
  have f3:0≤(x+18446744073709551616*b)/q:=AY (by omega) (by omega)
  have f4:(x+18446744073709551616*b)/q<18446744073709551616:=by
   refine Bb hq ?_
   have:18446744073709551616*(b+1)≤18446744073709551616*q:=Ac (by omega) (by omega)
   omega
  rw[f1,f2]
  omega
theorem fJ(m:List Int)(w s:Nat):J7 m w s=Lj s (m.drop w):=by
 apply List.ext_getElem
 ·rw[H2,Oo,AD]
 intro i h1 h2
 have h0:=h1
 rw[H2]at h0
 have g1:(Lj s (m.drop w)).getD i 0=(Lj s (m.drop w))[i]:=by
  rw[List.getD,Ag h2];rfl
 have g2:(J7 m w s)[i]=LR m w s i:=by
  have:(J7 m w s)[i]? =some (LR m w s i):=by unfold J7;rw[AC,Ci (by omega)];rfl
  rw[Ag h1]at this
  exact Option.some.inj this
 rw[←g1,g2,Xw s _ i (by rw[AD];exact h0)]
 unfold LR
 have d: ∀ j,(m.drop w).getD j 0=m.getD (w+j) 0:=fun j=>by rw[List.getD,List.getD,AF]
 rw[d,d,C6]
theorem kA{m:List Int}{w:Nat}(hw:w≤m.length):CS m=CS (m.take w)+Dg w*CS (m.drop w):=by
 have:=G1 (m.take w) (m.drop w)
 rw[Bu,A9,At hw]at this
 exact this
theorem Xg{m:List Int}{n:Nat}(hm:DJ m)(hw:n/64<m.length):CS (J7 m (n/64) (n % 64))=CS m/2^n:=by
 rw[fJ,T9 _ (Ap _ (by omega)) (hm.drop _)]
 have e1:=kA (m:=m) (w:=n/64) (by omega)
 have e2:(2:Int)^n=Dg (n/64)*2^(n % 64):=by rw[M3,show 64*(n/64)+n % 64=n by omega]
 have h1:=DG (hm.take (n/64))
 have h2:=Ex (hm.take (n/64))
 rw[A9,At (by omega)]at h2
 have h3:=Er (n/64)
 have h4:CS m/Dg (n/64)=CS (m.drop (n/64)):=by
  rw[e1,BI _ _ (by omega),Bv h1 h2]
  omega
 rw[e2,←Int.ediv_ediv_of_nonneg (by omega),h4]
def K2(m:List Int)(w s i:Nat):List Int:=(J7 m w s).take i++List.replicate (m.length-w-i) 0
theorem Zk(m:List Int)(w s:Nat):K2 m w s 0=List.replicate (m.length-w) 0:=by unfold K2;simp
theorem NU{m:List Int}{w s i:Nat}(hi:i≤m.length-w):(K2 m w s i).length=m.length-w:=by
 unfold K2
 rw[As,A9,H2,Am]
 omega
theorem fM{m:List Int}{w s i:Nat}{z:Int}(hi:i<m.length-w)(hz:z=LR m w s i):(K2 m w s i).set i z=K2 m w s (i+1):=by
 unfold K2
 have e:((J7 m w s).take i).length=i:=by rw[A9,H2];omega
 rw[List.set_append_right _ _ (by omega),e,Cb,show m.length-w-i=(m.length-w-(i+1))+1 by omega,C5,List.set_cons_zero]
 rw[GA 0 (show i<(J7 m w s).length by rw[H2];exact hi),Bg]
 congr 2
 rw[hz]
 unfold J7
 rw[List.getD,AC,Ci (by omega)]
 rfl
theorem fK{m:List Int}{w s i:Nat}(hi:i=m.length-w):K2 m w s i=J7 m w s:=by
 unfold K2
 rw[hi,Cb,AN (by rw[H2];exact A5 _)]
 simp
theorem kG(x n:Nat):(CS (CQ x)/2^n).toNat=x/2^n:=by
 rw[Do]
 have:(2:Int)^n=((2^n:Nat):Int):=by simp
 rw[this,←Bo,Ar]
theorem oQ(n:Nat):(bl n:Int)=if(CQ n).length=0 then 0 else 64*((CQ n).length-1:Int)+(bl ((CQ n).getD ((CQ n).length-1) 0).toNat:Int):=by
 by_cases h0:(CQ n).length=0
 ·rw[if_pos h0];rw[F2]at h0;rw[h0];rfl
 rw[if_neg h0]
 obtain⟨k,hk⟩: ∃ k,(CQ n).length=k+1:=⟨(CQ n).length-1,by omega⟩
 have hd:=D9 n
 have ht:=J9 n
 have g1:=hd.at (k:=k) (by omega)
 have g2:(CQ n).getD k 0≠0:=by
  rcases ht with h|h
  ·rw[h]at h0;exact(h0 rfl).elim
  rw[hk]at h;exact h
 have e1:=EN (l:=CQ n) (k:=k) (by omega)
 rw[AN (by omega),Do]at e1
 have a1:=DG (hd.take k)
 have a2:=Ex (hd.take k)
 rw[A9,At (by omega)]at a2
 obtain⟨t,htt⟩: ∃ t:Nat,(CQ n).getD k 0=t:=⟨((CQ n).getD k 0).toNat,by omega⟩
 rw[hk,show k+1-1=k by omega,htt,Ar]
 rw[htt]at e1 g2
 have ew:Dg k=((2^(64*k):Nat):Int):=by
  have:=M3 k 0
  simp only[Int.pow_zero,AZ,Bx]at this
  rw[this];simp
 rw[ew]at e1 a2
 obtain⟨lo,hlo⟩: ∃ lo:Nat,CS ((CQ n).take k)=lo:=⟨_,(Int.toNat_of_nonneg a1).symm⟩
 rw[hlo]at e1 a2
 have e2:n=lo+2^(64*k)*t:=by rw[←Ad]at e1;omega
 have hp:=Ax (64*k)
 have e3:n/2^(64*k)=t:=by
  rw[e2,Nat.add_mul_div_left _ _ hp,Cn (by omega)]
  omega
 have h1:2^(64*k)*1≤2^(64*k)*t:=Nat.mul_le_mul_left _ (by omega)
 have:=QJ (t:=n) (k:=64*k) (by omega)
 rw[e3]at this
 omega
theorem ko(n:Nat):(CQ n).getD 0 0=((n % 18446744073709551616:Nat):Int):=by
 by_cases h:n=0
 ·rw[h,DZ];rfl
 rw[Hn h];rfl
theorem Rq{n:Nat}(h:(CQ n).length≤1):n<18446744073709551616:=by
 by_cases h0:n=0
 ·omega
 rw[Hn h0,AG]at h
 have:=F2.1 (show(CQ (n/18446744073709551616)).length=0 by omega)
 omega
theorem mI{m:List Int}{n i:Nat}(hm:DJ m)(hw: ¬(m.length:Int)≤((n/64:Nat):Int))(hi:i=m.length-n/64):CS (K2 m (n/64) (n % 64) i)=CS m/2^n:=by
 rw[fK hi,Xg hm (by omega)]
theorem fL(m:List Int)(w s i:Nat):DJ (K2 m w s i):=fun z hz=>by
 unfold K2 at hz
 rcases BD.1 hz with h|h
 ·exact Tg m w s z (CA h)
 rw[(List.mem_replicate.1 h).2];omega
theorem dk{n:Nat}(h:(CQ n).length=0):0=(bl n:Int):=by rw[F2]at h;rw[h];rfl
theorem Ys{n:Nat}(h: ¬(CQ n).length=0):64*(((CQ n).length:Int) -1)+(bl ((CQ n).getD ((CQ n).length-1:Int).toNat 0).toNat:Int)=(bl n:Int):=by
 rw[oQ n,if_neg h,show((CQ n).length-1:Int).toNat=(CQ n).length-1 by omega]
def Jf(n:Nat):Nat:=if h:n=0 then 0 else if n % 2=1 then 0 else Jf (n/2)+1
termination_by n
decreasing_by omega
theorem o0{n:Nat}(h:n % 2=1):Jf n=0:=by
 rw[Jf]
 simp[h]
theorem o3{n:Nat}(h:n≠0):Jf (2*n)=Jf n+1:=by
 rw[Jf,dif_neg (by omega),if_neg (by omega),Nat.mul_div_cancel_left _ (by omega)]
theorem sN: ∀ {n:Nat},n≠0→ ∃ m,n=2^Jf n*(2*m+1):=by
 intro n
 induction n using Nat.strongRecOn with
 |ind n ih=>
  intro h
  by_cases h1:n % 2=1
  ·refine⟨n/2,?_⟩
   rw[o0 h1,Nat.pow_zero,B5]
   omega
  obtain⟨m,hm⟩:=ih (n/2) (by omega) (by omega)
  refine⟨m,?_⟩
  have e:n=2*(n/2):=by omega
  have e2:Jf n=Jf (n/2)+1:=by have:=o3 (n:=n/2) (by omega);rw[←e]at this;exact this
  rw[e2,Ca,AP _ 2,Nat.mul_assoc,←hm]
  exact e
theorem ku{k m:Nat}(h:2^k*(2*m+1)<2^64):(2^k*(2*m+1))&&&(2^64-2^k*(2*m+1))=2^k:=by
 have hp:=Ax k
 obtain⟨q,hq⟩: ∃ q,2^k*(2*m+1)=q+1:=⟨2^k*(2*m+1) -1,by have:=Nat.mul_pos hp (show 0<2*m+1 by omega);omega⟩
 have hk:k<64:=by
  refine(Nat.pow_lt_pow_iff_right (show 1<2 by omega)).1 (C8 ?_ h)
  exact BG _ (by omega)
 have eq1:q=2^k*(2*m)+(2^k-1):=by
  rw[Nat.mul_add,Bz]at hq
  omega
 refine Nat.eq_of_testBit_eq fun i=>?_
 rw[Nat.testBit_and,Nat.testBit_two_pow]
 conv=>lhs;rhs;rw[hq]
 rw[Nat.testBit_two_pow_sub_succ (by rw[hq]at h;omega),Nat.testBit_two_pow_mul,eq1,Nat.testBit_two_pow_mul_add _ (by omega)]
 by_cases h1:i<k
 ·have e1:decide (k≤i)=false:=by simp;omega
  have e2:decide (k=i)=false:=by simp;omega
  rw[e1,e2];simp
 by_cases h2:i=k
 ·subst h2
  have e1:(2*m+1).testBit 0=true:=by simp
  have e2:(2*m).testBit 0=false:=by simp
  rw[Cb,if_neg h1,e1,e2]
  simp
  omega
 have e2:decide (k=i)=false:=by simp;omega
 obtain⟨j,hj⟩: ∃ j,i-k=j+1:=⟨i-k-1,by omega⟩
 have e3:(2*m+1).testBit (j+1)=m.testBit j:=by rw[Nat.testBit_succ];congr 1;omega
 have e4:(2*m).testBit (j+1)=m.testBit j:=by rw[Nat.testBit_succ];congr 1;omega
 rw[if_neg h1,hj,e2,e3,e4]
 cases m.testBit j<;>simp
theorem pj: ∀ k:Nat,k<64→Yx.getD ((2^k*285870213051353865) % 18446744073709551616/288230376151711744) 0=(k:Int)∧(2^k*285870213051353865) % 18446744073709551616/288230376151711744<64:=by decide
theorem sT{z:Int}(h0:0<z)(h1:z<18446744073709551616):IntKind.u64.wrap (-z)=18446744073709551616-z:=by rw[Nt];omega
theorem ix{z:Int}(h0:0<z)(h1:z<18446744073709551616):Ej .and .u64 z (18446744073709551616-z)=((2^Jf z.toNat:Nat):Int)∧Jf z.toNat<64:=by
 obtain⟨n,rfl⟩: ∃ n:Nat,z=n:=⟨z.toNat,by omega⟩
 rw[Ar]
 have e32:(2:Nat)^64=18446744073709551616:=by decide
 obtain⟨m,hm⟩:=sN (n:=n) (by omega)
 have hk:Jf n<64:=by
  refine(Nat.pow_lt_pow_iff_right (show 1<2 by omega)).1 (C8 ?_ (show n<2^64 by omega))
  have:=BG (2^Jf n) (show 0<2*m+1 by omega)
  omega
 have hl:=ku (k:=Jf n) (m:=m) (by rw[←hm];omega)
 rw[←hm,e32]at hl
 have e1:(BitVec.ofInt 64 (n:Int)).toNat=n:=by simp[BitVec.toNat_ofInt];omega
 have e2:(BitVec.ofInt 64 (18446744073709551616-(n:Int))).toNat=18446744073709551616-n:=by simp[BitVec.toNat_ofInt];omega
 have e3:Ej .and .u64 (n:Int) (18446744073709551616-(n:Int))=IntKind.u64.wrap (((BitVec.ofInt 64 (n:Int))&&&(BitVec.ofInt 64 (18446744073709551616-(n:Int)))).toNat:Int):=rfl
 have hp:2^Jf n≤n:=by
  have:=BG (2^Jf n) (show 0<2*m+1 by omega)
  omega
 refine⟨?_,hk⟩
 rw[e3,BitVec.toNat_and,e1,e2,hl,Nt]
 omega
theorem j6(k:Nat):IntKind.u64.wrap (((2^k:Nat):Int)*285870213051353865)=((2^k*285870213051353865 % 18446744073709551616:Nat):Int):=by rw[Nt];omega
theorem wx(n:Nat):((n:Nat):Int).fdiv (2^min (58:Int).toNat IntKind.u64.bits)=((n/288230376151711744:Nat):Int):=by
 have:(2:Int)^min (58:Int).toNat IntKind.u64.bits=((288230376151711744:Nat):Int):=by decide
 rw[this,Bw _ (by omega),←Bo]
theorem sG{Γ:D2}{i:Nat}(hi:i<64):Sb Γ (DW S8 i) (Gf [CW (.int .u8 (Yx.getD i 0))]):=fun v c hf hv=>by
 obtain⟨b,hb,hv⟩:=hv
 have hb1:b=nR:=by
  rcases hb with hb|⟨_,_,hb⟩
  ·unfold S8 at hb;cases hb;rfl
  unfold S8 at hb;cases hb
 subst hb1
 obtain⟨h1,cur,T,fz,h2,h3⟩:=hf.2 S8 tW (by unfold Gl;simp)
 refine⟨nR,i,cur,T,fz,hv,h1,h2,fun j p hj=>?_⟩
 have hj0:j=0:=by
  have:=Ho hj
  simpa using this
 subst hj0
 simp only[nth,Ah]at hj
 subst hj
 have hl:i<Yx.length:=by
  have:Yx.length=64:=rfl
  omega
 exact⟨_,h3 i (Yx.getD i 0) (by rw[List.getD,Ag hl];rfl),rfl,rfl,rfl⟩
section ops
variable {P:Program} {n:Nat} {ops:Array Oper} {Γ:D2} {ρ:DU} {δ:DK} {τ:List VR}
variable {d:Nat} {ty:TypeId} {pos:String} {af:Array Edge}
theorem Us{x y:Operand}{ats:Array TypeId}{k:IntKind}{a b:Int}(hx:Lk Γ δ ρ x (CW (.int k a)))(hy:Lk Γ δ ρ y (CW (.int k b))):
  OpOK P n ops Γ ρ δ τ ⟨some d,.call ⟨.builtin .max,#[x,y],ats⟩,ty,pos,af,none⟩ .no (.c (CW (.int k (max a b)))) ET:=
 DE fun A c _ hr=>by
  have h1:=(hr x _ (by simp[Op.operands,Call.operands]) hx).1
  have h2:=(hr y _ (by simp[Op.operands,Call.operands]) hy).1
  refine⟨.int k (max a b),?_,rfl,rfl⟩
  by_cases h:a<b
  ·simp[execOp,resolve,invoke,builtin,Builtin.max_,Builtin.max2,h1,h2,h,show max a b=b by omega]
  simp[execOp,resolve,invoke,builtin,Builtin.max_,Builtin.max2,h1,h2,h,show max a b=a by omega]
end ops
theorem OJ{X:Cx}{Γ:D2}{ρ:DU}{σ:List Res}{Q:Exit→Act→World→Prop}{ρc ρ1:DU}{σ':List Res}{x y:Code}(hp:To X Γ ρ σ Γ ρc σ')(h1:J X Γ ρ σ x (Exit.then (fun a w=> ∃ c',c'.w=w∧St X Γ (ρ1++ρc) σ' a c') Q))(h2:J X Γ (ρ1++ρc) σ' y Q):J X Γ ρ σ x (Exit.then (fun a w=>y.wp X.P Q a w) Q):=fun a c hs=>
 fun b kk cs=>by
  obtain⟨e,a',w',hq,har⟩:=h1 a c hs b kk cs
  refine⟨e,a',w',?_,har⟩
  cases e
  case normal=>
   obtain⟨c',hw,hs'⟩:=hq
   show y.wp X.P Q a' w'
   rw[←hw]
   exact h2 a' c' hs'
  all_goals exact hq
def yZ:ByteArray:=⟨#[0,1,2,2,3,3,3,3,4,4,4,4,4,4,4,4,5,5,5,5,5,5,5,5,5,5,5,5,5,5,5,5,6,6,6,6,6,6,6,6,6,6,6,6,6,6,6,6,6,6,6,6,6,6,6,6,6,6,6,6,6,6,6,6,7,7,7,7,7,7,7,7,7,7,7,7,7,7,7,7,7,7,7,7,7,7,7,7,7,7,7,7,7,7,7,7,7,7,7,7,7,7,7,7,7,7,7,7,7,7,7,7,7,7,7,7,7,7,7,7,7,7,7,7,7,7,7,7,8,8,8,8,8,8,8,8,8,8,8,8,8,8,8,8,8,8,8,8,8,8,8,8,8,8,8,8,8,8,8,8,8,8,8,8,8,8,8,8,8,8,8,8,8,8,8,8,8,8,8,8,8,8,8,8,8,8,8,8,8,8,8,8,8,8,8,8,8,8,8,8,8,8,8,8,8,8,8,8,8,8,8,8,8,8,8,8,8,8,8,8,8,8,8,8,8,8,8,8,8,8,8,8,8,8,8,8,8,8,8,8,8,8,8,8,8,8,8,8,8,8,8,8,8,8,8,8]⟩
theorem k8: ∀ i:Nat,i<256→yZ[i]? =some (UInt8.ofNat (bl i)):=by decide+kernel
theorem Hj{z:Int}(h0:0≤z)(h1:z<256):yZ[z.toNat]? =some (UInt8.ofNat (bl z.toNat)):=k8 _ (by omega)
theorem FW{z:Int}(h0:0≤z)(h1:z<256):IntKind.i64.wrap (((UInt8.ofNat (bl z.toNat)).toNat:Nat):Int)=(bl z.toNat:Int):=by
 have h:=QI (t:=z.toNat) (k:=8) (by omega)
 have e:(UInt8.ofNat (bl z.toNat)).toNat=bl z.toNat:=by simp;omega
 rw[e]
 exact zO (by omega) (by omega)
theorem ng(z:Int):z.fdiv (2^min (16:Int).toNat IntKind.u32.bits)=z/65536:=by
 show z.fdiv 65536=z/65536
 exact Bw z (by omega)
theorem cv(z:Int):z.fdiv (2^min (8:Int).toNat IntKind.u32.bits)=z/256:=by
 show z.fdiv 256=z/256
 exact Bw z (by omega)
theorem gU{z:Int}(h0:0≤z)(h1:z<256):IntKind.u8.wrap z=z:=by
 simp[IntKind.wrap,IntKind.bits,IntKind.signed]
 omega
theorem iG{z:Int}(h:65536≤z):(bl z.toNat:Int)=16+(bl (z/65536).toNat:Int):=by
 have:=QJ (t:=z.toNat) (k:=16) (by show 65536≤_;omega)
 rw[show z.toNat/2^16=(z/65536).toNat by show z.toNat/65536=_;omega]at this
 omega
theorem Vz{z:Int}(h:256≤z):(bl z.toNat:Int)=8+(bl (z/256).toNat:Int):=by
 have:=QJ (t:=z.toNat) (k:=8) (by show 256≤_;omega)
 rw[show z.toNat/2^8=(z/256).toNat by show z.toNat/256=_;omega]at this
 omega
theorem Lm{n y:Int}(h0:0≤n)(h1:n≤100)(h2:0≤y)(h3:y<256):IntKind.i64.wrap (n+(bl y.toNat:Int))=n+(bl y.toNat:Int):=by
 have h:=QI (t:=y.toNat) (k:=8) (by omega)
 exact zO (by omega) (by omega)
theorem rI{m:List Int}{n i:Nat}(hm:Fm m)(hw: ¬(m.length:Int)≤((n/32:Nat):Int))(hi:i=m.length-n/32):CX (Pc m (n/32) (n % 32) i)=CX m/2^n:=by
 rw[mG hi,rJ hm (by omega)]
theorem mH(m:List Int)(w s i:Nat):Fm (Pc m w s i):=fun z hz=>by
 unfold Pc at hz
 rcases BD.1 hz with h|h
 ·exact mE m w s z (CA h)
 rw[(List.mem_replicate.1 h).2];omega
theorem wi{m:List Int}{w s i:Nat}:((m.getD (w+i) 0+4294967296*m.getD (w+i+1) 0)/2^s) % 4294967296=UI m w s i:=rfl
theorem wj{m:List Int}{w s i:Nat}(h: ¬((w:Int)+(i:Int)+1<(m.length:Int))):(m.getD (w+i) 0/2^s) % 4294967296=UI m w s i:=by
 unfold UI
 rw[dQ (show m.length≤w+i+1 by omega),Int.mul_zero,Ba]
theorem iH{n:Nat}(h:(CR n).length=0):0=(bl n:Int):=by rw[Fo]at h;rw[h];rfl
theorem di{n:Nat}(h: ¬(CR n).length=0):32*(((CR n).length:Int) -1)+(bl ((CR n).getD ((CR n).length-1:Int).toNat 0).toNat:Int)=(bl n:Int):=by
 rw[iI n,if_neg h,show((CR n).length-1:Int).toNat=(CR n).length-1 by omega]
theorem Tp{x:Int}:Ds (decide (x<0)) x.natAbs=x:=by
 unfold Ds
 by_cases h:x<0
 ·rw[if_pos (by simpa using h)];omega
 rw[if_neg (by simpa using h)];omega
theorem V7(k:Nat):Dg k=((2^(64*k):Nat):Int):=by
 have:=M3 k 0
 simp only[Int.pow_zero,AZ,Bx]at this
 rw[this];simp
theorem oP{x:Nat}(h:(CQ x).length≤1000000000):bl x≤64000000000:=by
 have h1:=Ex (D9 x)
 rw[Do]at h1
 have h2:=H6 h
 obtain⟨K,hK⟩: ∃ K,K=64*1000000000:=⟨_,rfl⟩
 have e:=V7 1000000000
 rw[←hK]at e
 have h3:=QI (t:=x) (k:=K) (BJ.1 (by omega))
 omega
structure Vo(a b l:List Int)(n k:Nat)(c:Int):Prop where
 hk:k≤n
 hl:l.length=n+1
 hd:DJ l
 hc:0≤c∧c≤1
 hm:CS (l.take k)+Dg k*c=CS (a.take k)+CS (b.take k)
theorem gD{a b:List Int}{n m:Nat}(hm:m=n+1):Vo a b (List.replicate m 0) n 0 0:=by
 subst hm
 exact⟨A7 _,by rw[Am],IE _,by omega,by simp[CS]⟩
def Lv(x y c:Int):Int:=(x+y+c) % 18446744073709551616
def Kl(x y c:Int):Int:=(x+y+c)/18446744073709551616
theorem gC{a b l:List Int}{n k:Nat}{c x y:Int}(ha:DJ a)(hb:DJ b)(h:Vo a b l n k c)(hk:k<n)(hx:x=Gi a k)(hy:y=Gi b k):Vo a b (l.set k (Lv x y c)) n (k+1) (Kl x y c):=by
 subst hx hy
 obtain⟨h1,h2,h3,h4,h5⟩:=h
 have g1:=H1 ha k
 have g2:=H1 hb k
 unfold Lv Kl
 refine⟨by omega,by rw[Aa];exact h2,h3.set (by omega),by omega,?_⟩
 rw[Gy (by omega),N0,N0,Em]
 generalize Gi a k=x at*
 generalize Gi b k=y at*
 have e2:Dg k*((x+y+c) % 18446744073709551616)+18446744073709551616*Dg k*((x+y+c)/18446744073709551616)=Dg k*(x+y+c):=by
  have:=Be (x+y+c) 18446744073709551616
  rw[Ab 18446744073709551616 (Dg k),Aw,←Al,this]
 have e3:Dg k*(x+y+c)=Dg k*x+Dg k*y+Dg k*c:=by rw[Al,Al]
 omega
theorem Pj{l:List Int}{k:Nat}(hk:l.length≤k):l.take k=l:=AN hk
theorem gB{a b l:List Int}{n k:Nat}{c:Int}(ha:a.length≤n)(hb:b.length≤n)(h:Vo a b l n k c)(hk:k=n):DJ (l.set n c)∧CS (l.set n c)=CS a+CS b:=by
 obtain⟨h1,h2,h3,h4,h5⟩:=h
 subst hk
 refine⟨h3.set (by omega),?_⟩
 have e:=Gy (l:=l) (v:=c) (show k<l.length by omega)
 rw[Pj (by rw[Aa];omega)]at e
 rw[e,h5,Pj ha,Pj hb]
theorem RC{l:List Int}{k:Nat}(hk:k≤l.length)(h0:0<k)(hz:l.getD (k-1) 0=0)(hm:CS (l.take k)=CS l):CS (l.take (k-1))=CS l:=iZ hk h0 hz hm
theorem rA(n:Nat)(h:n<18446744073709551616):IntKind.u64.wrap ((n:Int).tdiv 64)=((n/64:Nat):Int):=by
 rw[Cw (by omega),DD (by omega) (by omega)]
 omega
theorem wg(n:Nat):(n:Int).tmod 64=((n % 64:Nat):Int):=by
 rw[BY (by omega)]
 omega
theorem fX{x:Int}{s:Nat}(hs:s<64):IntKind.u64.wrap (x*2^min ((s:Nat):Int).toNat IntKind.u64.bits)=(x*2^s) % 18446744073709551616:=by
 have e:min ((s:Nat):Int).toNat IntKind.u64.bits=s:=by
  show min s 64=s
  omega
 rw[e,Nt]
theorem gg{x:Int}{s:Nat}(hs:s≤64):x.fdiv (2^min ((s:Nat):Int).toNat IntKind.u64.bits)=x/2^s:=by
 have e:min ((s:Nat):Int).toNat IntKind.u64.bits=s:=by
  show min s 64=s
  omega
 rw[e]
 have h:(0:Int)<2^s:=Int.pow_pos (by decide)
 exact Bw x (by omega)
theorem nj{x:Int}{s:Nat}(hx:0≤x∧x<18446744073709551616)(hs:s<64):x/2^(64-s)=(x*2^s)/18446744073709551616:=by
 obtain⟨h1,h2,h3,h4⟩:=HQ hs
 rw[←h3,Ab x,Int.mul_ediv_mul_of_pos _ _ (by omega)]
theorem XD{s:Nat}(hs:s<64):IntKind.u64.wrap (64-((s:Nat):Int))=((64-s:Nat):Int):=by rw[DD (by omega) (by omega)];omega
theorem bO{L lo p y:Int}{s:Nat}(hs:p=2^s)(h0:0≤L)(h1:L<p)(hlo:lo=p*y)(hy:0≤y)(hb:L+lo<18446744073709551616):Ej .or .u64 L lo=L+lo:=by
 obtain⟨L',rfl⟩: ∃ n:Nat,L=n:=⟨L.toNat,by omega⟩
 obtain⟨y',rfl⟩: ∃ n:Nat,y=n:=⟨y.toNat,by omega⟩
 have hp:p=((2^s:Nat):Int):=by rw[hs];simp
 have e:lo=((2^s*y':Nat):Int):=by rw[hlo,hp,Ad]
 rw[e]at hb⊢
 rw[hp]at h1
 rw[KQ _ _ (by omega) (by omega),Nat.or_comm,←Nat.two_pow_add_eq_or_of_lt (by omega)]
 omega
theorem b7{m l:List Int}{w i s:Nat}{x t:Int}(hs:s<64)(hm:DJ m)(h:QA m l w (2^s) i)(hi:i<m.length)(hx:x=m.getD i 0)(ht:t=x*2^s):Ej .or .u64 (l.getD (w+i) 0) (t % 18446744073709551616)=l.getD (w+i) 0+t % 18446744073709551616:=by
 obtain⟨h1,h2,h3,h4⟩:=HQ hs
 have g1:=hm.at hi
 rw[←hx]at g1
 obtain⟨b1,b2,b3,b4,b5⟩:=Rl g1 h1 h2 h3
 rw[←ht]at b1 b2 b3 b4 b5
 have g2:=h.hd.at (k:=w+i) (by have:=h.hl;omega)
 have g3:=h.hp
 exact bO rfl g2.1 g3 b5 (Ay x (by omega)) (by omega)
theorem mK{x y:Int}{s:Nat}(hx:0≤x∧x<18446744073709551616)(hy:0≤y∧y<18446744073709551616)(hs:s<64):Ej .or .u64 (x/2^s) (IntKind.u64.wrap (y*2^min (((64-s:Nat):Nat):Int).toNat IntKind.u64.bits))=((x+18446744073709551616*y)/2^s) % 18446744073709551616:=by
 obtain⟨h1,h2,h3,h4⟩:=HQ hs
 have e:min (((64-s:Nat):Nat):Int).toNat IntKind.u64.bits=64-s:=by
  show min (64-s) 64=64-s
  omega
 rw[e,Nt]
 have e1:(x+18446744073709551616*y)/2^s=x/2^s+2^(64-s)*y:=by
  rw[←h3,show x+2^s*2^(64-s)*y=x+2^s*(2^(64-s)*y) by rw[Aw],BI _ _ (by omega)]
 have hd:x/2^s<2^(64-s):=Bb (by omega) (by rw[Ab,h3];exact hx.2)
 have hn:0≤x/2^s:=AY hx.1 (by omega)
 have e2:(y*2^(64-s)) % 18446744073709551616=2^(64-s)*(y % 2^s):=by
  rw[←h3,Ab y,Ab (2^s),Int.mul_emod_mul_of_pos _ _ (by omega)]
 have hm1:=Ay y (show(2:Int)^s≠0 by omega)
 have hm2:=AB y (show(0:Int)<2^s by omega)
 have hb:x/2^s+2^(64-s)*(y % 2^s)<18446744073709551616:=by
  have h5:2^(64-s)*(y % 2^s+1)≤(2:Int)^(64-s)*2^s:=Ac (by omega) (by omega)
  rw[Ab _ ((2:Int)^s),h3,Al]at h5
  omega
 rw[e2,bO (p:=2^(64-s)) rfl hn hd rfl hm1 hb,e1]
 have e3:2^(64-s)*y=2^(64-s)*(y % 2^s)+18446744073709551616*(y/2^s):=by
  have:=Be y (2^s)
  have h6:(2:Int)^(64-s)*(y % 2^s+2^s*(y/2^s))=2^(64-s)*y:=by rw[this]
  rw[Al,←Aw,Ab _ ((2:Int)^s),h3]at h6
  omega
 rw[e3,←Int.add_assoc,CG]
 have h7:0≤(2:Int)^(64-s)*(y % 2^s):=Ae (by omega) hm1
 exact(AV (by omega) hb).symm
theorem uV{x y:Int}(hx:0≤x∧x<18446744073709551616)(hy:0≤y∧y<18446744073709551616):0≤Ej .or .u64 x y∧Ej .or .u64 x y<18446744073709551616:=by
 obtain⟨a,rfl⟩: ∃ n:Nat,x=n:=⟨x.toNat,by omega⟩
 obtain⟨b,rfl⟩: ∃ n:Nat,y=n:=⟨y.toNat,by omega⟩
 have h2:(2:Nat)^64=18446744073709551616:=by decide
 rw[KQ _ _ (by omega) (by omega)]
 have:=Nat.or_lt_two_pow (show a<2^64 by omega) (show b<2^64 by omega)
 omega
theorem j9{n:Nat}(hn:n<18446744073709551616):DJ [(n:Int)]:=fun z hz=>by rw[AE.1 hz];omega
theorem po{n:Nat}:Gi (CQ n) 0=((n % 18446744073709551616:Nat):Int):=by
 unfold Gi
 by_cases h:0<(CQ n).length
 ·rw[if_pos h,ko]
 rw[if_neg h,F2.1 (show(CQ n).length=0 by omega)];rfl
end Go.Bn
