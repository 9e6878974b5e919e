/-
 Memory that a call writes beside memory that it only reads; what a call has made, lasting at once.
-/
import Derived.Test.YtgfanjebfjeneaaGreatDoorZqM7
import Derived.Test.YtgfanjebfjeneaaGreatDoorZqM4
set_option linter.unusedVariables false
set_option linter.unusedSimpArgs false
namespace Go.Bn
open Go
def SNI(p:SP):Prop:= ∀ v c,p.H v c→ ∀ (k:IntKind) (z:Int),v≠Value.int k z
def ow(r:Res):Prop:= ∀ c ob,r.H c ob→ ∀ b,ob b→ ∃ cur T fz,c.w.heap[b]? =some (.cells cur T fz)∧ ∀ (i:Nat) (k:IntKind) (z:Int),cur[i]? ≠some (Value.int k z)
theorem XA(b:Bool):SNI (CW (.bool b)):=fun v c h k z e=>by rw[h.1]at e;cases e
theorem cD{k:IntKind}{l:List Int}:SNI (DP k l):=fun v c h k z e=>by
 rcases h.2 with ⟨h1,_⟩|⟨ad,cap,h1,_⟩<;>(rw[h1]at e;cases e)
theorem qR{u:Value}{cells:List SP}{T:TypeId}(h: ∀ i p,nth cells i=some p→SNI p):ow (Dh u cells T):=fun c ob ⟨b,cur,h1,h2,h3,h4,h5⟩ b' hb=>by
 rw[of1 h2 hb]
 refine⟨cur,T,_,h3,fun i k z hi=>?_⟩
 have hl:i<cells.length:=by
  have:=(BA.1 hi).1
  omega
 obtain⟨p,hp⟩: ∃ p,nth cells i=some p:=⟨cells[i],by rw[Dq];exact Ag hl⟩
 obtain⟨x,g1,_,g3⟩:=h5 i p hp
 rw[Aq,hi]at g1
 cases g1
 exact h i p hp _ _ g3 k z rfl
theorem bD{u:Value}{q:Rat}{T:TypeId}:ow (Dh u (H5 q) T):=qR fun i p hp=>by
 match i,hp with
 |0,hp=>simp only[nth,Ah]at hp;subst hp;exact XA _
 |1,hp=>simp only[nth,Ah]at hp;subst hp;exact cD
 |2,hp=>simp only[nth,Ah]at hp;subst hp;exact XA _
 |3,hp=>simp only[nth,Ah]at hp;subst hp;exact cD
 |_+4,hp=>simp[nth]at hp
theorem qS:ow Go.Bn.emp:=fun c ob h b hb=>by
 have h:ob=Ix:=h
 rw[h]at hb;cases hb
theorem WH{n:Nat}{f:Nat→Res}(h: ∀ i,i<n→ow (f i)):ow (FE n f):=fun c ob ⟨os,h1,_,h3⟩ b hb=>by
 obtain⟨i,hi,hbi⟩:=(h1 b).1 hb
 exact h i hi c (os i) (h3 i hi) b hbi
theorem aT{rp:Res}(h:ow rp){c:EW}{ob:Bs}{w':World}{M:Nat→Prop}{v:Value}{xs:List Int}{k:IntKind}(hr:rp.H c ob)(hh: ∀ b,ob b→w'.heap[b]? =c.w.heap[b]?)(hv:(DP k xs).H v ⟨w',fun b=>M b∧ ¬ob b⟩):(DP k xs).H v ⟨w',M⟩:=by
 obtain⟨h0,hv⟩:=hv
 refine⟨h0,hv.imp id ?_⟩
 rintro ⟨ad,cap,h1,h2,h3,h4⟩
 refine⟨ad,cap,h1,h2,h3,?_⟩
 rcases h4 with h4|⟨b,off,e,hm,cur,T,fz,g1,g2⟩
 ·exact .inl h4
 by_cases hn:(xs.map (Eh k)).length=0
 ·exact .inl hn
 refine .inr ⟨b,off,e,fun hMb=>?_,cur,T,fz,g1,fun i p hp=>?_⟩
 ·have hob:ob b:=Aj fun hc=>hm ⟨hMb,hc⟩
  obtain⟨cur',T',fz',q1,q2⟩:=h c ob hr b hob
  have g1':c.w.heap[b]? =some (.cells cur T fz):=(hh b hob).symm.trans g1
  rw[q1]at g1'
  cases g1'
  cases xs with
  |nil=>exact absurd rfl hn
  |cons x xs=>
   obtain⟨u,p1,_,p3⟩:=g2 0 (Eh k x) rfl
   exact q2 _ k x (by rw[p1,p3.1])
 obtain⟨u,p1,p2,p3⟩:=g2 i p hp
 refine⟨u,p1,p2,?_⟩
 rw[Dq,AC]at hp
 cases hx:xs[i]? with
 |none=>rw[hx]at hp;cases hp
 |some x=>rw[hx]at hp;simp only[AL,Ah]at hp;subst hp;exact p3
theorem bV{rp:Res}(h:ow rp){u:Value}{q:Rat}{T:TypeId}{c:EW}{ob:Bs}{w':World}{M:Nat→Prop}{o1:Bs}(hr:rp.H c ob)(hh: ∀ b,ob b→w'.heap[b]? =c.w.heap[b]?)(hv:(Dh u (H5 q) T).H ⟨w',fun b=>M b∧ ¬ob b⟩ o1):(Dh u (H5 q) T).H ⟨w',M⟩ o1:=by
 obtain⟨b,cur,h1,h2,h3,h4,h5⟩:=hv
 refine⟨b,cur,h1,h2,h3,h4,fun i p hp=>?_⟩
 obtain⟨x,g1,g2,g3⟩:=h5 i p hp
 refine⟨x,g1,g2,?_⟩
 match i,hp with
 |0,hp=>simp only[nth,Ah]at hp;subst hp;exact g3
 |1,hp=>simp only[nth,Ah]at hp;subst hp;exact aT h hr hh g3
 |2,hp=>simp only[nth,Ah]at hp;subst hp;exact g3
 |3,hp=>simp only[nth,Ah]at hp;subst hp;exact aT h hr hh g3
 |_+4,hp=>simp[nth]at hp
theorem kb{u:Value}{cells:List SP}{T:TypeId}:PO (Dh u cells T) (CW u) (Gf cells):=fun c c1 ob v h hq hle hob=>by
 rw[hq.1];exact Dv c c1 ob h hle hob
theorem dW{n:Nat}{f:Nat→Res}{i:Nat}{q p:SP}(hi:i<n)(h:PO (f i) q p):PO (FE n f) q p:=fun c c1 ob v ⟨os,h1,_,h3⟩ hq hle hob=>h c c1 (os i) v (h3 i hi) hq hle fun b hb=>hob b ((h1 b).2 ⟨i,hi,hb⟩)
def NB(rp:Res):List SP→List SP→Prop
 |[],[]=>True
 |q::qs,p::ps=>(q=p∨PO rp q p)∧NB rp qs ps
 |_,_=>False
theorem NB.val{rp:Res}{c c1:EW}{ob:Bs}(hr:rp.H c ob)(hle:Le c c1)(hob: ∀ b,ob b→c1.w.heap[b]? =c.w.heap[b]? ∧ ¬c1.M b): ∀ {qs ps:List SP} {vs:List Value},NB rp qs ps→HL qs vs c→HL ps vs c1
 |[],[],[],_,_=>trivial
 |q::qs,p::ps,v::vs,⟨h1,h2⟩,⟨h3,h4⟩=>by
  refine⟨?_,NB.val hr hle hob h2 h4⟩
  rcases h1 with h1|h1
  ·rw[←h1];exact q.st _ _ _ hle h3
  exact h1 c c1 ob v hr h3 hle hob
 |[],_::_,_,h,_=>h.elim
 |_::_,[],_,h,_=>h.elim
 |[],[],_::_,_,h=>h.elim
 |_::_,_::_,[],_,h=>h.elim
theorem En.lend{P:Program}{f:Nat}{ps qs:List SP}{r r' rp:Res}{R:SP}(h:En P f ps r R r')(hl:NB rp qs ps)(hR:R.Pure)
  (ho: ∀ c ob w' M o1,rp.H c ob→(∀ b,ob b→w'.heap[b]? =c.w.heap[b]?)→r'.H ⟨w',fun b=>M b∧ ¬ob b⟩ o1→r'.H ⟨w',M⟩ o1):En P f qs (r.sep rp) R (r'.sep rp):=by
 refine⟨h.1,fun vs c ob hwf ⟨hg,hv⟩ ⟨o1,o2,e,d,h1,h2⟩ hM=>?_⟩
 let c1:EW:=⟨c.w,fun b=>c.M b∧ ¬o2 b⟩
 have hle:Le c c1:=⟨rfl,rfl,rfl,A5 _,fun j _ hm=>⟨rfl,fun h=>hm h.1⟩⟩
 have hv1:=hl.val h2 hle (fun b hb=>⟨rfl,fun h=>h.2 hb⟩) hv
 refine(h.2 vs c1 o1 (fun j hj=>hwf j hj.1) ⟨hg.le hle,hv1⟩ (r.fr c c1 o1 hle (fun _ _=>rfl) h1) fun b hb=>⟨hM b ((e b).2 (.inl hb)),fun hb2=>d b hb hb2⟩).mono fun en w' ⟨v,he,hxm,hR',hr'⟩=>?_
 have heq: ∀ b,o2 b→w'.heap[b]? =c.w.heap[b]? :=fun b hb=>hxm.heap b (hwf b (hM b ((e b).2 (.inr hb)))) fun hb1=>d b hb1 hb
 have hle2:Le c ⟨w',c.M⟩:=⟨hxm.os,hxm.tape,hxm.out,hxm.size,fun k hk hm=>⟨hxm.heap k hk fun hb=>hm (hM k ((e k).2 (.inl hb))),hm⟩⟩
 exact⟨v,he,⟨hxm.os,hxm.tape,hxm.out,hxm.size,fun k hk hn=>hxm.heap k hk fun hb=>hn ((e k).2 (.inl hb))⟩,hR _ _ _ hR',o1,o2,e,d,ho c o2 w' c.M o1 h2 heq hr',rp.fr c _ o2 hle2 heq h2⟩
theorem X5(u:Value)(o:Nat):(DW u o).Pure:=fun _ _ _ h=>h
def Yt(s:Nat)(cells:List SP)(T:TypeId)(r:Res):VR:= .d [s] (fun f=>(Dh (f s) cells T).sep r) (fun f g h=>by rw[h s (AE.2 rfl)])
section ops
variable {P:Program} {n:Nat} {ops:Array Oper} {Γ:D2} {ρ:DU} {δ:DK} {τ:List VR}
variable {d:Nat} {ty:TypeId} {pos:String} {af:Array Edge}
theorem O4{T:TypeId}(k:Nat){zs:List Value}{r:Res}(hz:HC P T=some zs)(h1:zs.all (·.oneCell')=true)(hk:nth τ k=some (.c r)):
  OpOK P n ops Γ ρ δ τ ⟨some d,.alloc T,ty,pos,af,none⟩ (.wr k) (J6 d) (Yt d (zs.map CW) T r):=by
 intro a c ob hs hwf hf hr hres hno hown
 obtain⟨r0,hr0,hh⟩:=hres k rfl
 rw[hk]at hr0
 cases hr0
 have hh':r.H c ob:=hh
 simp only[Region.wanted,if_true]
 unfold GP
 unfold HC at hz
 cases hi:P.info? T with
 |none=>rw[hi]at hz;cases hz
 |some i=>
  rw[hi]at hz
  simp only[BT]at hz
  cases hzz:i.zero with
  |none=>rw[hzz]at hz;cases hz
  |some z=>
   rw[hzz]at hz
   simp only[AL,Ah]at hz
   have hex:(execOp a.eval ⟨some d,.alloc T,ty,pos,af,none⟩).run P c.w= .ok (.value (.pointer (some ⟨c.w.heap.size,0,none⟩))) (c.w.alloc (.cells z.cells T)):=by
    simp[execOp,Instr.alloc,zeroValue,typeInfo,hi,hzz,newVar,newRow]
   rw[hex]
   have hsz:z.cells.size=(zs.map CW).length:=by rw[←hz];simp
   have hcl:CL (zs.map CW) z.cells 0 ⟨c.w,c.M⟩:=fun i p hp=>by
    rw[Dq,AC]at hp
    cases hu:zs[i]? with
    |none=>rw[hu]at hp;cases hp
    |some u=>
     rw[hu]at hp
     cases hp
     have h1u:u.oneCell'=true:=(B1.1 h1) u (Bh hu)
     refine⟨u,?_,h1u,rfl,h1u⟩
     rw[←hz,Cf]at hu
     simpa using hu
   obtain⟨h1,h2⟩:=Uk (w:=c.w) (M:=c.M) hwf (T:=T) hsz hcl
   have hle:=h1.le (fun b hb=>by cases hb)
   refine⟨⟨c.w.alloc (.cells z.cells T),fun k=>c.M k∨k=c.w.heap.size⟩,fun b=>b=c.w.heap.size∨ob b,rfl,⟨h1.os,h1.tape,h1.out,h1.size,fun j hj _=>h1.heap j hj (fun _ hb=>by cases hb),fun j hj=>⟨(h1.mem j hj).1,fun e=> .inl (.inl e)⟩,.inr ⟨rfl,fun b hb=>?_⟩,h1.lt⟩,?_,fun _=>?_⟩
   ·rcases hb with hb|hb
    ·subst hb;exact .inr ⟨A5 _,.inr rfl⟩
    exact .inl hb
   ·simp only[J6,VE.at,FK]
    exact⟨c.w.heap.size,.inl rfl,rfl⟩
   simp only[Yt,VR.at,FK]
   refine⟨only c.w.heap.size,ob,fun b=>Iff.rfl,fun b hb hb2=>?_,h2,r.fr _ _ _ hle (fun b hb=>h1.heap b (hown b hb).2 (fun _ hb=>by cases hb)) hh'⟩
   have h9:b=c.w.heap.size:=hb
   have:=(hown b hb2).2
   omega
theorem Tb{f s:Nat}{xs xs':List Operand}{ps:List SP}{cells cells':List SP}{T':TypeId}{r:Res}{ats:Array TypeId}(k:Nat)(hy:DA δ ρ s=some (J6 s))(hk:nth τ k=some (Yt s cells T' r))(hf: ∀ u:Value,En P f (DW u 0::ps) ((Dh u cells T').sep r) (DW u 0) ((Dh u cells' T').sep r))(hxs:xs= .tmp s::xs')(hx:Sf Γ δ ρ xs' ps):
  OpOK P n ops Γ ρ δ τ ⟨some d,.call ⟨.value (.func f),xs.toArray,ats⟩,ty,pos,af,none⟩ (.wr k) (.c (Gf cells')) (.c r):=by
 intro a c ob hs hwf hfa hr hres hno hown
 obtain⟨r0,hr0,hh⟩:=hres k rfl
 rw[hk]at hr0
 cases hr0
 have hh':((Dh (vl a s) cells T').sep r).H c ob:=hh
 have hp:(DW (vl a s) 0).H (a.eval (.tmp s)) c:=hr s (B3 _ (BM.2 ⟨.tmp s,by simp[Op.operands,Call.operands,hxs],rfl⟩)) _ hy
 have hv0:=hx.val (a:=a) (c:=c) fun x q hx' hq=>Lk.val (o:=⟨some d,.call ⟨.value (.func f),xs.toArray,ats⟩,ty,pos,af,none⟩) hr hfa (by simp[Op.operands,Call.operands,hxs,hx']) hq
 have hv:HL (DW (vl a s) 0::ps) (xs.map a.eval) c:=by rw[hxs];exact⟨hp,hv0⟩
 simp only[Region.wanted,if_true]
 unfold GP
 have hex:(execOp a.eval ⟨some d,.call ⟨.value (.func f),xs.toArray,ats⟩,ty,pos,af,none⟩).run P c.w= .ok (.enter f (xs.map a.eval).toArray) c.w:=by
  have h1:=EF (hf (vl a s)).1 (xs.map a.eval).toArray c.w
  simp[execOp,resolve,Deferred.ofValue,Act.eval,invoke,h1]
 rw[hex]
 refine((hf (vl a s)).2 _ c ob hwf ⟨hfa.2,hv⟩ hh' fun b hb=>(hown b hb).1).mono fun e w' ⟨v,he,hxm,hR,o1,o2,e1,d1,hb1,hr2⟩=>?_
 let c':EW:=⟨w',fun b=>c.M b∧ ¬o1 b⟩
 have hle:Le ⟨w',c.M⟩ c':=⟨rfl,rfl,rfl,A5 _,fun j _ hm=>⟨rfl,fun h=>hm h.1⟩⟩
 refine⟨v,he,c',o2,rfl,⟨hxm.os,hxm.tape,hxm.out,hxm.size,fun j hj hne=>hxm.heap j hj (hne rfl),fun j hj=>⟨fun h=>h.1,fun h=>?_⟩,.inr ⟨rfl,fun b hb=> .inl ((e1 b).2 (.inr hb))⟩,fun j hj=>B4 (hwf j hj.1) hxm.size⟩,?_,fun _=>?_⟩
 ·by_cases ho:o1 j
  ·exact .inr ⟨rfl,(e1 j).2 (.inl ho),fun h2=>d1 j ho h2⟩
  exact .inl ⟨h,ho⟩
 ·have hfz:=Dv _ c' o1 hb1 hle fun b hb=>⟨rfl,fun h=>h.2 hb⟩
  obtain⟨b,cur,g1,g2,_⟩:=hb1
  obtain⟨b',g3,g4⟩:=hR
  rw[g1]at g3
  have hvb:v=vl a s:=by
   rw[g1]
   rcases g3 with g3|⟨_,_,g3⟩
   ·cases g3;exact g4
   cases g3
  show(Gf cells').H v c'
  rw[hvb];exact hfz
 exact r.fr _ _ _ hle (fun _ _=>rfl) hr2
theorem fe{f s:Nat}{xs xs':List Operand}{ps:List SP}{cells cells':List SP}{T':TypeId}{ats:Array TypeId}(k:Nat)(hy:DA δ ρ s=some (J6 s))(hk:nth τ k=some (Jr s cells T'))(hf: ∀ u:Value,En P f (DW u 0::ps) (Dh u cells T') (DW u 0) (Dh u cells' T'))(hxs:xs= .tmp s::xs')(hx:Sf Γ δ ρ xs' ps):
  OpOK P n ops Γ ρ δ τ ⟨some d,.call ⟨.value (.func f),xs.toArray,ats⟩,ty,pos,af,none⟩ (.wr k) (.c (Gf cells')) (.c Go.Bn.emp):=by
 intro a c ob hs hwf hfa hr hres hno hown
 obtain⟨r0,hr0,hh⟩:=hres k rfl
 rw[hk]at hr0
 cases hr0
 have hh':(Dh (vl a s) cells T').H c ob:=hh
 have hp:(DW (vl a s) 0).H (a.eval (.tmp s)) c:=hr s (B3 _ (BM.2 ⟨.tmp s,by simp[Op.operands,Call.operands,hxs],rfl⟩)) _ hy
 have hv0:=hx.val (a:=a) (c:=c) fun x q hx' hq=>Lk.val (o:=⟨some d,.call ⟨.value (.func f),xs.toArray,ats⟩,ty,pos,af,none⟩) hr hfa (by simp[Op.operands,Call.operands,hxs,hx']) hq
 have hv:HL (DW (vl a s) 0::ps) (xs.map a.eval) c:=by rw[hxs];exact⟨hp,hv0⟩
 simp only[Region.wanted,if_true]
 unfold GP
 have hex:(execOp a.eval ⟨some d,.call ⟨.value (.func f),xs.toArray,ats⟩,ty,pos,af,none⟩).run P c.w= .ok (.enter f (xs.map a.eval).toArray) c.w:=by
  have h1:=EF (hf (vl a s)).1 (xs.map a.eval).toArray c.w
  simp[execOp,resolve,Deferred.ofValue,Act.eval,invoke,h1]
 rw[hex]
 refine((hf (vl a s)).2 _ c ob hwf ⟨hfa.2,hv⟩ hh' fun b hb=>(hown b hb).1).mono fun e w' ⟨v,he,hxm,hR,hb1⟩=>?_
 let c':EW:=⟨w',fun b=>c.M b∧ ¬ob b⟩
 have hle:Le ⟨w',c.M⟩ c':=⟨rfl,rfl,rfl,A5 _,fun j _ hm=>⟨rfl,fun h=>hm h.1⟩⟩
 refine⟨v,he,c',Ix,rfl,⟨hxm.os,hxm.tape,hxm.out,hxm.size,fun j hj hne=>hxm.heap j hj (hne rfl),fun j hj=>⟨fun h=>h.1,fun h=>?_⟩,.inr ⟨rfl,fun b hb=>by cases hb⟩,fun j hj=>B4 (hwf j hj.1) hxm.size⟩,?_,fun _=>rfl⟩
 ·by_cases ho:ob j
  ·exact .inr ⟨rfl,ho,fun h2=>by cases h2⟩
  exact .inl ⟨h,ho⟩
 have hfz:=Dv _ c' ob hb1 hle fun b hb=>⟨rfl,fun h=>h.2 hb⟩
 obtain⟨b,cur,g1,g2,_⟩:=hb1
 obtain⟨b',g3,g4⟩:=hR
 rw[g1]at g3
 have hvb:v=vl a s:=by
  rw[g1]
  rcases g3 with g3|⟨_,_,g3⟩
  ·cases g3;exact g4
  cases g3
 show(Gf cells').H v c'
 rw[hvb];exact hfz
end ops
def TU(x:Nz):Rat:=if 0≤x.e then mkRat (x.low 0).m 1 else mkRat x.m (2^(-x.e).toNat)
def Hc(x:Nat):Rat:=TU (P1 x)
theorem v9{x:Nz}(h:0≤x.e):mkRat (Ds (decide ((x.low 0).m<0)) (x.low 0).m.natAbs) 1=TU x:=by
 unfold TU
 rw[if_pos h,Tp]
theorem LN(n:Nat):(((1:Nat):Int)*2^n).natAbs=2^n∧0<((1:Nat):Int)*2^n:=by
 have e:((1:Nat):Int)*2^n=((2^n:Nat):Int):=by simp
 rw[e,Av]
 exact⟨rfl,by have:=Ax n;omega⟩
theorem jd{x:Nz}(h:x.e<0):mkRat (Ds (decide (x.m<0) !=decide (((1:Nat):Int)*2^(-x.e).toNat<0)) x.m.natAbs) (((1:Nat):Int)*2^(-x.e).toNat).natAbs=TU x:=by
 obtain⟨h1,h2⟩:=LN (-x.e).toNat
 unfold TU
 rw[if_neg (by omega),h1,show decide (((1:Nat):Int)*2^(-x.e).toNat<0)=false by simp only[decide_eq_false_iff_not];omega,Bool.bne_false,Tp]
structure Exf(x:Nz):Prop where
 b:Exb x
 e0: -1100≤x.e
 e1:x.e≤1100
 m:x.m.natAbs<9007199254740992
theorem Nm{n k:Nat}(h:n<32*k):((2^n:Nat):Int)<DQ k:=by
 have e:DQ k=((2^(32*k):Nat):Int):=by
  have:(2:Nat)^32=4294967296:=by decide
  rw[Nat.pow_mul,this,Ch]
  rfl
 rw[e]
 exact BJ.2 (Nat.pow_lt_pow_right (by omega) h)
theorem aE{x:Nz}(h:Exf x)(h0:0≤x.e):(((x.low 0).m.natAbs:Nat):Int)<DQ 40:=by
 have h1:=h.m
 have h2:=h.e1
 unfold Nz.low
 split
 ·have h3:=G2 (show 2≤40 by omega)
  have h4:DQ 2=18446744073709551616:=by decide+kernel
  omega
 show(((x.m*2^(x.e-0).toNat).natAbs:Nat):Int)<DQ 40
 have e:(x.m*2^(x.e-0).toNat).natAbs=x.m.natAbs*2^(x.e-0).toNat:=by
  rw[BB,show(2:Int)^(x.e-0).toNat=((2^(x.e-0).toNat:Nat):Int) by simp,Av]
 rw[e]
 have h4:DQ 2=18446744073709551616:=by decide+kernel
 exact HZ (n:=2) (m:=38) (by omega) (Nm (by omega)) (by omega)
theorem nt{x:Int}(h:((x.natAbs:Nat):Int)<DQ 40):Kk x:=⟨by have:=G2 (show 40≤1000000000 by omega);omega⟩
theorem se{n:Nat}(h:n≤1100):Kk (((1:Nat):Int)*2^n):=nt (by rw[(LN n).1];exact Nm (by omega))
theorem aD{x:Nz}(h:Exf x):JI 40 (TU x):=by
 have h1:=h.m
 have h2:=h.e0
 have w2:DQ 2=18446744073709551616:=by decide+kernel
 have w40:=G2 (show 2≤40 by omega)
 unfold TU
 split
 ·rename_i h0
  rw[←Tp (x:=(x.low 0).m)]
  exact RU (by omega) (aE h h0) (by omega)
 rename_i h0
 rw[←Tp (x:=x.m)]
 exact RU (by have:=Ax (-x.e).toNat;omega) (by omega) (Nm (by omega))
theorem Uo{x:Nat}(hf:DF x=true)(hx:x<2^64):Exf (P1 x):=by
 obtain⟨a1,a2⟩:=lj hf hx
 exact⟨qV hf hx,by omega,by omega,P2 x⟩
def IV:Value:= .pointer none
abbrev L7(T:TypeId)(vs:List Value)(qs:List Rat)(i:Nat):Res:=Dh (vs.getD i IV) (H5 (qs.getD i 0)) T
def w6(U:Value)(qs:List Rat)(TP T:TypeId):Res:=exR fun vs:{vs:List Value//vs.length=qs.length}=>(DC U CW vs.1 TP).sep (FE qs.length (L7 T vs.1 qs))
theorem KS{u:Value}{cells:List SP}{T:TypeId}: ∀ c ob,(Dh u cells T).H c ob→ ∃ b,u= .pointer (some ⟨b,0,none⟩):=fun c ob ⟨b,_,h,_⟩=>⟨b,h⟩
theorem Qa{Γ:D2}{u:Value}(h: ∃ b,u= .pointer (some ⟨b,0,none⟩)):Sb Γ (DW u 0) (CW u):=fun v c hf ⟨b,h1,h2⟩=>by
 obtain⟨b',e⟩:=h
 rcases h1 with h1|⟨_,_,h1⟩
 ·rw[h2,←h1];exact⟨rfl,by rw[h1];rfl⟩
 rw[e]at h1;cases h1
theorem Qb{Γ:D2}{u:Value}(h: ∃ b,u= .pointer (some ⟨b,0,none⟩)):Sb Γ (CW u) (DW u 0):=fun v c hf hv=>by
 obtain⟨b,e⟩:=h
 exact⟨b,.inl e,by rw[hv.1,e]⟩
theorem Sw{α β:Type}{f:α→β}{xs:List α}{k:Nat}(d:α)(hk:k<xs.length):(xs.map f).take k++ [f (xs.getD k d)]=(xs.map f).take (k+1):=by
 rw[List.take_add_one,AC,Ag hk]
 simp[List.getD,Ag hk]
theorem tg{x:Nat}{m e:Int}(hm:(P1 x).m=m)(hE:(P1 x).e=e)(he:e<0):mkRat (Ds (decide (m<0) !=decide (((1:Nat):Int)*2^e.natAbs<0)) m.natAbs) (((1:Nat):Int)*2^e.natAbs).natAbs=Hc x:=by
 subst hm hE
 unfold Hc
 rw[←jd he,show(-(P1 x).e).toNat=(P1 x).e.natAbs by omega]
theorem th{x:Nat}{m e:Int}(hm:(P1 x).m=m)(hE:(P1 x).e=e)(he: ¬e<0):((m*(((1:Nat):Int)*2^e.natAbs):Int):Rat)=Hc x:=by
 subst hm hE
 have e1:((1:Nat):Int)*2^(P1 x).e.natAbs=2^(P1 x).e.natAbs:=by simp
 unfold Hc TU
 rw[if_pos (by omega),Rat.mkRat_one,e1]
 congr 1
 unfold Nz.low
 split
 ·rw[show(P1 x).e.natAbs=0 by omega];simp
 show _=(P1 x).m*2^((P1 x).e-0).toNat
 rw[show((P1 x).e-0).toNat=(P1 x).e.natAbs by omega]
theorem aF(x:Nat):(On x=true→(P1 x).m= -((Kx (Iw x):Nat):Int))∧(On x=false→(P1 x).m=((Kx (Iw x):Nat):Int)):=by
 unfold P1
 exact⟨fun h=>if_pos h,fun h=>if_neg (by rw[h];decide)⟩
theorem PW{X:Cx}{Γ:D2}{ρ:DU}{σ:List Res}{K:Act→World→Prop}{r:Res}{R:Prop}(k:Nat)(hk:nth σ k=some r)(hr: ∀ c ob,r.H c ob→R)(h:R→JN X Γ ρ σ K):JN X Γ ρ σ K:=fun a c hs=>by
 obtain⟨obs,hown,hres⟩:=hs.own
 exact h (hr _ _ (hres k _ hk)) a c hs
abbrev UD:List SP:=[CW (.bool false),CW (.slice none 0 0),CW (.bool false),CW (.slice none 0 0)]
abbrev XX(T:TypeId)(vs:List Value)(i:Nat):Res:=Dh (vs.getD i IV) UD T
def wV(U:Value)(n:Nat)(TP T:TypeId):Res:=exR fun vs:{vs:List Value//vs.length=n}=>(DC U CW vs.1 TP).sep (FE n (XX T vs.1))
theorem dR{α:Type}(l:List α)(x d:α):(l++ [x]).getD l.length d=x:=by simp[List.getD]
theorem js{α:Type}{l m:List α}{i:Nat}(d:α)(h:i<l.length):(l++m).getD i d=l.getD i d:=by simp[List.getD,AW h]
theorem mg{T:TypeId}{vs:List Value}{k:Nat}{b:Value}(hl:vs.length=k): ∀ c ob,(FE (k+1) (LD (XX T vs) k (Dh b UD T))).H c ob→(FE (k+1) (XX T (vs++ [b]))).H c ob:=
 Jx fun i hi=>by
  unfold LD
  subst hl
  by_cases h:i=vs.length
  ·rw[if_pos h,h]
   show Dh b UD T=Dh ((vs++ [b]).getD vs.length IV) UD T
   rw[dR]
  rw[if_neg h]
  show Dh (vs.getD i IV) UD T=Dh ((vs++ [b]).getD i IV) UD T
  rw[js _ (by omega)]
theorem gN{U:Value}{T TP:TypeId}{vs:List Value}{k n:Nat}(hk:k=n)(hl:vs.length=k): ∀ c ob,((DC U CW vs TP).sep (FE k (XX T vs))).H c ob→(wV U n TP T).H c ob:=fun c ob h=>by
 subst hk
 exact⟨⟨vs,hl⟩,h⟩
def PQ(T:TypeId)(vs:List Value)(qs:List Rat)(k i:Nat):Res:=Dh (vs.getD i IV) (if i<k then H5 (qs.getD i 0)else UD) T
theorem kR{T:TypeId}{vs:List Value}{qs:List Rat}{n:Nat}: ∀ c ob,(FE n (XX T vs)).H c ob→(FE n (PQ T vs qs 0)).H c ob:=Jx fun i hi=>by
 unfold PQ
 rw[if_neg (Bl i)]
theorem vH{T:TypeId}{vs:List Value}{qs:List Rat}{k:Nat}:PQ T vs qs k k=Dh (vs.getD k IV) UD T:=by
 unfold PQ
 rw[if_neg (Nat.lt_irrefl k)]
theorem kQ{T:TypeId}{vs:List Value}{qs:List Rat}{n k:Nat}: ∀ c ob,(FE n (LD (PQ T vs qs k) k (Dh (vs.getD k IV) (H5 (qs.getD k 0)) T))).H c ob→(FE n (PQ T vs qs (k+1))).H c ob:=Jx fun i hi=>by
 unfold LD
 by_cases h:i=k
 ·rw[if_pos h,h]
  unfold PQ
  rw[if_pos (by omega)]
 rw[if_neg h]
 unfold PQ
 by_cases h2:i<k
 ·rw[if_pos h2,if_pos (by omega)]
 rw[if_neg h2,if_neg (by omega)]
theorem fG{U:Value}{T TP:TypeId}{vs:List Value}{qs:List Rat}{k:Nat}(hk:k=qs.length)(hl:vs.length=qs.length): ∀ c ob,((DC U CW vs TP).sep (FE qs.length (PQ T vs qs k))).H c ob→(w6 U qs TP T).H c ob:=fun c ob ⟨o1,o2,h1,h2,h3,h4⟩=>by
 subst hk
 refine⟨⟨vs,hl⟩,o1,o2,h1,h2,h3,Jx (fun i hi=>?_) c o2 h4⟩
 unfold PQ
 rw[if_pos hi]
theorem dN{T:TypeId}{n:Nat}{vs:List Value}{f g:Nat→List SP}:Y3 (FE n fun i=>Dh (vs.getD i IV) (f i) T) (FE n fun i=>Dh (vs.getD i IV) (g i) T):=by
 rintro c c' ob ob' ⟨os,h1,h2,h3⟩ ⟨os',k1,k2,k3⟩
 have e: ∀ i,i<n→os i=os' i:=fun i hi=>CU c c' (os i) (os' i) (h3 i hi) (k3 i hi)
 funext b
 apply propext
 rw[h1,k1]
 constructor
 ·rintro ⟨i,hi,hb⟩;exact⟨i,hi,by rw[←e i hi];exact hb⟩
 rintro ⟨i,hi,hb⟩;exact⟨i,hi,by rw[e i hi];exact hb⟩
def J2(qs:List Rat)(i j c:Nat)(f:Rat):Nat→List Rat
 |0=>qs
 |k+1=>(J2 qs i j c f k).set (i*c+k) (qs.getD (i*c+k) 0-f*qs.getD (j*c+k) 0)
theorem GU(qs:List Rat)(i j c:Nat)(f:Rat): ∀ k,(J2 qs i j c f k).length=qs.length
 |0=>rfl
 |k+1=>by rw[J2,Aa,GU qs i j c f k]
theorem OS{qs:List Rat}{i m:Nat}{v:Rat}(hi:i<qs.length):(qs.set i v).getD m 0=if m=i then v else qs.getD m 0:=by
 simp only[List.getD,Cj]
 by_cases h:i=m
 ·subst h;simp[hi]
 rw[if_neg h,if_neg (fun e=>h e.symm)]
theorem Qc{qs:List Rat}{i j c:Nat}{f:Rat}: ∀ {k:Nat},k≤c→i*c+c≤qs.length→ ∀ m,(J2 qs i j c f k).getD m 0=if i*c≤m∧m<i*c+k then qs.getD m 0-f*qs.getD (j*c+(m-i*c)) 0 else qs.getD m 0
 |0,_,_,m=>by rw[J2,if_neg (by omega)]
 |k+1,hk,hl,m=>by
  rw[J2,OS (by rw[GU];omega),Qc (by omega) hl m]
  by_cases h:m=i*c+k
  ·rw[if_pos h,if_pos (by omega),h,show i*c+k-i*c=k by omega]
  rw[if_neg h]
  by_cases h2:i*c≤m∧m<i*c+k
  ·rw[if_pos h2,if_pos (by omega)]
  rw[if_neg h2,if_neg (by omega)]
theorem Kf{i c k n:Nat}(hi:i<n)(hk:k<c):i*c+k<n*c:=by
 have h1:i*c+c≤n*c:=by rw[←B6];exact Au c hi
 omega
theorem lZ{n:Nat}{F:Nat→Res}{i:Nat}(hi:i<n): ∀ c ob,(FE n F).H c ob→((F i).sep (FE n (Kr F i))).H c ob:=fun c ob hp=>by
 obtain⟨os,h1,h2,h3⟩:=hp
 refine⟨os i,fun b=> ∃ m,m<n∧m≠i∧os m b,fun b=>?_,fun x hx ⟨m,g1,g2,g3⟩=>g2 (h2 m i x g1 hi g3 hx),h3 i hi,⟨fun m=>if m=i then Ix else os m,fun b=>⟨fun⟨m,g1,g2,g3⟩=>⟨m,g1,by simp only[if_neg g2];exact g3⟩,fun⟨m,g1,g2⟩=>?_⟩,fun a b x ha hb hx hy=>?_,fun m hm=>?_⟩⟩
 ·rw[h1]
  constructor
  ·rintro ⟨m,g1,g2⟩
   by_cases e:m=i
   ·exact .inl (e▸g2)
   exact .inr ⟨m,g1,e,g2⟩
  rintro (hx|⟨m,g1,_,g3⟩)
  ·exact⟨i,hi,hx⟩
  exact⟨m,g1,g3⟩
 ·by_cases e:m=i
  ·simp only[if_pos e]at g2;cases g2
  simp only[if_neg e]at g2;exact⟨m,g1,e,g2⟩
 ·by_cases e:a=i
  ·simp only[if_pos e]at hx;cases hx
  by_cases e2:b=i
  ·simp only[if_pos e2]at hy;cases hy
  simp only[if_neg e]at hx;simp only[if_neg e2]at hy
  exact h2 a b x ha hb hx hy
 unfold Kr
 by_cases e:m=i
 ·simp only[if_pos e];rfl
 simp only[if_neg e];exact h3 m hm
theorem ru{n:Nat}{F:Nat→Res}{i:Nat}{r:Res}(hi:i<n): ∀ c ob,(r.sep (FE n (Kr F i))).H c ob→(FE n (LD F i r)).H c ob:=fun c ob hp=>by
 obtain⟨q,p,hob,hd,hq,os,h1,h2,h3⟩:=hp
 have hoi: ∀ b,¬os i b:=fun b hb=>by
  have:=h3 i hi
  unfold Kr at this
  rw[if_pos rfl]at this
  have this:os i=Ix:=this
  rw[this]at hb;cases hb
 refine⟨fun m=>if m=i then q else os m,fun b=>?_,fun a b x ha hb hx hy=>?_,fun m hm=>?_⟩
 ·rw[hob]
  constructor
  ·rintro (hb|hb)
   ·exact⟨i,hi,by simp only[if_true];exact hb⟩
   obtain⟨m,g1,g2⟩:=(h1 b).1 hb
   refine⟨m,g1,?_⟩
   by_cases e:m=i
   ·rw[e]at g2;exact(hoi b g2).elim
   simp only[if_neg e];exact g2
  rintro ⟨m,g1,g2⟩
  by_cases e:m=i
  ·simp only[if_pos e]at g2;exact .inl g2
  simp only[if_neg e]at g2;exact .inr ((h1 b).2 ⟨m,g1,g2⟩)
 ·by_cases e:a=i
  ·by_cases e2:b=i
   ·rw[e,e2]
   simp only[if_pos e]at hx;simp only[if_neg e2]at hy
   exact(hd x hx ((h1 x).2 ⟨b,hb,hy⟩)).elim
  by_cases e2:b=i
  ·simp only[if_neg e]at hx;simp only[if_pos e2]at hy
   exact(hd x hy ((h1 x).2 ⟨a,ha,hx⟩)).elim
  simp only[if_neg e]at hx;simp only[if_neg e2]at hy
  exact h2 a b x ha hb hx hy
 unfold LD
 by_cases e:m=i
 ·simp only[if_pos e];exact hq
 have:=h3 m hm
 unfold Kr at this
 rw[if_neg e]at this
 simp only[if_neg e];exact this
theorem En.conv{P:Program}{f:Nat}{ps:List SP}{R:SP}{r0 r0' r1 DO:Res}(h:En P f ps r1 R DO)(h0: ∀ c ob,r0.H c ob→r1.H c ob)(h1: ∀ c ob,DO.H c ob→r0'.H c ob):En P f ps r0 R r0':=
 ⟨h.1,fun vs c ob hwf hv hr hM=>(h.2 vs c ob hwf hv (h0 _ _ hr) hM).mono fun e w' ⟨v,he,hxm,hR,hr'⟩=>⟨v,he,hxm,hR,h1 _ _ hr'⟩⟩
def a0X(n:Nat)(vs:List Value):Prop:= ∀ i,i<n→ ∃ b,vs.getD i IV= .pointer (some ⟨b,0,none⟩)
theorem X0{T:TypeId}{n:Nat}{vs:List Value}{qs:List Rat}: ∀ c ob,(FE n (L7 T vs qs)).H c ob→a0X n vs:=fun c ob ⟨os,h1,h2,h3⟩ i hi=>KS _ _ (h3 i hi)
theorem WI{T:TypeId}{n:Nat}{vs:List Value}{qs:List Rat}:ow (FE n (L7 T vs qs)):=WH fun i hi=>bD
theorem kZ{T:TypeId}{n a:Nat}{vs:List Value}{qs:List Rat}:ow (FE n (Kr (L7 T vs qs) a)):=WH fun i hi=>by
 unfold Kr
 by_cases e:i=a
 ·rw[if_pos e];exact qS
 rw[if_neg e];exact bD
theorem Kt{T:TypeId}{n i:Nat}{vs:List Value}{qs:List Rat}(hi:i<n):PO (FE n (L7 T vs qs)) (CW (vs.getD i IV)) (JL (qs.getD i 0)):=dW hi kb
theorem VT{T:TypeId}{n:Nat}{vs:List Value}{qs qs':List Rat}:Y3 (FE n (L7 T vs qs)) (FE n (L7 T vs qs')):=dN
theorem NB.refl{rp:Res}: ∀ ps:List SP,NB rp ps ps
 |[]=>trivial
 |_::ps=>⟨.inl rfl,NB.refl ps⟩
theorem En.two{P:Program}{f:Nat}{u:Value}{p q p' q':SP}{cs:List SP}{z:Rat}{T:TypeId}{rp:Res}(h:En P f [DW u 0,p',q'] (Dh u cs T) (DW u 0) (Dh u (H5 z) T))(hp:p=p'∨PO rp p p')(hq:q=q'∨PO rp q q')(hn:ow rp):En P f [DW u 0,p,q] ((Dh u cs T).sep rp) (DW u 0) ((Dh u (H5 z) T).sep rp):=
 h.lend ⟨.inl rfl,hp,hq,trivial⟩ (X5 _ _) fun c ob w' M o1 hr hh hv=>bV hn hr hh hv
theorem En.inpool{P:Program}{f:Nat}{n i:Nat}{ps:List SP}{u:Value}{z:Rat}{T:TypeId}{vs:List Value}{qs:List Rat}(hi:i<n)(hl:i<qs.length)(h:En P f ps (Dh (vs.getD i IV) (H5 (qs.getD i 0)) T) (DW u 0) (Dh (vs.getD i IV) (H5 z) T)):En P f ps (FE n (L7 T vs qs)) (DW u 0) (FE n (L7 T vs (qs.set i z))):=
 (h.lend (rp:=FE n (Kr (L7 T vs qs) i)) (qs:=ps) (NB.refl ps) (X5 _ _) fun c ob w' M o1 hr hh hv=>bV kZ hr hh hv).conv (lZ hi) fun c ob h=>Jx (fun j hj=>by
  unfold LD
  by_cases e:j=i
  ·rw[if_pos e,e]
   show Dh (vs.getD i IV) (H5 z) T=Dh (vs.getD i IV) (H5 ((qs.set i z).getD i 0)) T
   rw[OS hl,if_pos rfl]
  rw[if_neg e]
  show Dh (vs.getD j IV) (H5 (qs.getD j 0)) T=Dh (vs.getD j IV) (H5 ((qs.set i z).getD j 0)) T
  rw[OS hl,if_neg e]) c ob (ru hi c ob h)
theorem cb{x y:Rat}{n m k:Nat}(hx:JI n x)(hy:JI m y)(hk:n+m≤k):JI k (x*y):=by
 rw[←UE]
 exact RU (Bk x.den_nz y.den_nz) (HZ hx.a hy.a hk) (HZ hx.b hy.b hk)
theorem cf{x y:Rat}{n m k:Nat}(hx:JI n x)(hy:JI m y)(hy0:y≠0)(hk:n+m≤k):JI k (x/y):=by
 rw[←UF hy0]
 have h0:y.num≠0:=fun e=>hy0 (Rat.num_eq_zero.1 e)
 exact RU (Bk x.den_nz (by omega)) (HZ hx.a hy.b hk) (HZ hx.b hy.a hk)
theorem rS{x y:Rat}{n m k:Nat}(hx:JI n x)(hy:JI m y)(hk:n+m+1≤k):JI k (x-y):=by
 rw[←bW]
 have h1:=HZ hx.a hy.b (A5 (n+m))
 have h2:=HZ hy.a hx.b (show m+n≤n+m by omega)
 have h3:=HZ hx.b hy.b (show n+m≤k by omega)
 have h4:=G2 hk
 rw[F7]at h4
 have h0:=F9 (n+m)
 have e1:(x.num*y.den).natAbs=x.num.natAbs*y.den:=by rw[BB,Av]
 have e2:(y.num*x.den).natAbs=y.num.natAbs*x.den:=by rw[BB,Av]
 rw[←e1]at h1
 rw[←e2]at h2
 exact RU (Bk x.den_nz y.den_nz) (by omega) h3
theorem mW:JI 1 0:=⟨by decide+kernel,by decide+kernel⟩
def HB(M:Nat→Nat→Rat):Nat→Nat→Nat→Rat
 |0=>M
 |c+1=>fun i j=>if c<i then HB M c i j-HB M c i c/HB M c c c*HB M c c j else HB M c i j
def Sy(qs:List Rat)(M:Nat→Nat→Rat)(n c i:Nat):Prop:=qs.length=n*n∧ ∀ r j,r<n→j<n→qs.getD (r*n+j) 0=HB M (if r<i then c+1 else c) r j
theorem Vx{qs:List Rat}{M:Nat→Nat→Rat}{n:Nat}(hl:qs.length=n*n)(h: ∀ r j,r<n→j<n→qs.getD (r*n+j) 0=M r j):Sy qs M n 0 0:=⟨hl,fun r j hr hj=>by rw[h r j hr hj,if_neg (Bl r)];rfl⟩
theorem JQ{M:Nat→Nat→Rat}{c i j:Nat}(h:i≤c):HB M (c+1) i j=HB M c i j:=by
 show(if c<i then _ else _)=_
 rw[if_neg (by omega)]
theorem LA{M:Nat→Nat→Rat}{c i j:Nat}(h:c<i):HB M (c+1) i j=HB M c i j-HB M c i c/HB M c c c*HB M c c j:=by
 show(if c<i then _ else _)=_
 rw[if_pos h]
theorem SI{qs:List Rat}{M:Nat→Nat→Rat}{n c:Nat}(h:Sy qs M n c 0):Sy qs M n c (c+1):=⟨h.1,fun r j hr hj=>by
 rw[h.2 r j hr hj,if_neg (Bl r)]
 by_cases hc:r<c+1
 ·rw[if_pos hc,JQ (by omega)]
 rw[if_neg hc]⟩
theorem QF{qs:List Rat}{M:Nat→Nat→Rat}{n c:Nat}(h:Sy qs M n c n):Sy qs M n (c+1) 0:=⟨h.1,fun r j hr hj=>by
 rw[h.2 r j hr hj,if_pos hr,if_neg (Bl r)]⟩
theorem aa{qs:List Rat}{M:Nat→Nat→Rat}{n c i:Nat}(h:Sy qs M n c i)(hc:c<i)(hi:i<n):Sy (J2 qs i c n (qs.getD (i*n+c) 0/qs.getD (c*n+c) 0) n) M n c (i+1):=by
 refine⟨by rw[GU];exact h.1,fun r j hr hj=>?_⟩
 have hl:i*n+n≤qs.length:=by
  rw[h.1,←B6];exact Au n hi
 rw[Qc (A5 n) hl]
 by_cases e:r=i
 ·subst e
  rw[if_pos (by omega),if_pos (by omega),show r*n+j-r*n=j by omega,h.2 r j hr hj,h.2 r c hr (by omega),h.2 c c (by omega) (by omega),h.2 c j (by omega) hj,if_neg (Nat.lt_irrefl r),if_pos hc,LA hc,JQ (A5 c),JQ (A5 c)]
 have hn: ¬(i*n≤r*n+j∧r*n+j<i*n+n):=by
  intro⟨h1,h2⟩
  rcases Nat.lt_or_gt_of_ne e with h3|h3
  ·have h4:r*n+n≤i*n:=by rw[←B6];exact Au n h3
   omega
  have h4:i*n+n≤r*n:=by rw[←B6];exact Au n h3
  omega
 rw[if_neg hn,h.2 r j hr hj]
 by_cases h5:r<i
 ·rw[if_pos h5,if_pos (by omega)]
 rw[if_neg h5,if_neg (by omega)]
theorem bc{qs:List Rat}{i k c n j:Nat}{f:Rat}(hl:qs.length=n)(hik:i≠k)(hi:i*c+c≤n)(hk:k*c+c≤n)(hj:j<c):(J2 qs i k c f j).getD (i*c+j) 0=qs.getD (i*c+j) 0∧(J2 qs i k c f j).getD (k*c+j) 0=qs.getD (k*c+j) 0:=by
 refine⟨?_,?_⟩
 ·rw[Qc (by omega) (by omega),if_neg (by omega)]
 rw[Qc (by omega) (by omega),if_neg]
 intro⟨h1,h2⟩
 rcases Nat.lt_or_gt_of_ne hik with h3|h3
 ·have h4:i*c+c≤k*c:=by rw[←B6];exact Au c h3
  omega
 have h4:k*c+c≤i*c:=by rw[←B6];exact Au c h3
 omega
theorem XG{α:Type}: ∀ {o:Nat} {l:List α} {a:α},nth l o=some a→I3 o 1 l=some [a]
 |0,[],_,h=>by simp[nth]at h
 |0,x::l,a,h=>by
  simp only[nth,Ah]at h
  subst h
  simp only[I3,AL]
 |o+1,[],_,h=>by simp[nth]at h
 |o+1,x::l,a,h=>by
  simp only[nth]at h
  simp only[I3]
  exact XG h
section ops
variable {P:Program} {n:Nat} {ops:Array Oper} {Γ:D2} {ρ:DU} {δ:DK} {τ:List VR}
variable {d:Nat} {ty:TypeId} {pos:String} {af:Array Edge}
theorem WU{α:Type}{mk:α→SP}{xs:List α}(dv:α){x:Operand}{T U:TypeId}{base:Value}{off:Nat}(k:Nat)(hT:MW P T=some 1)(hx:Lk Γ δ ρ x (DW base off))(hk:nth τ k=some (.c (DC base mk xs U)))(h1:off<xs.length):
  OpOK P n ops Γ ρ δ τ ⟨some d,.load T x,ty,pos,af,none⟩ (.rd k) (.c (DL [mk (xs.getD off dv)])) ET:=
 yI k hT hx hk (br (by omega)) (XG (by rw[Qd,RE dv h1];rfl)) rfl
theorem Sp{α:Type}{mk:α→SP}{xs:List α}{v:α}{x y:Operand}{T U:TypeId}{base:Value}{off:Nat}(k:Nat)(hx:Lk Γ δ ρ x (DW base off))(hy:Lk Γ δ ρ y (DL [mk v]))(hT:J5 P T=some 1)(hk:nth τ k=some (.c (DC base mk xs U)))(h1:off<xs.length):
  OpOK P n ops Γ ρ δ τ ⟨none,.store T x y,ty,pos,af,none⟩ (.wr k) (.c Ge) (.c (DC base mk (xs.set off v) U)):=
 Kz (cells:=xs.map mk) (cells':=(xs.set off v).map mk) k hx hy yL hT hk (by rw[List.map_set];exact Oe (by simpa using h1)) (by
  have:=Rv (sv:=base) (n:=xs.length) (k:=1) (cells:=xs.map mk) (cells':=(xs.set off v).map mk) (T:=U) (by omega) (by simp)
  simpa[DC]using this)
end ops
def Zx(u:Value)(n:Nat)(T:TypeId):Res:=exR fun l:{l:List Rat//l.length=n}=>DC u EE l.1 T
theorem Kp{u:Value}{qs:List Rat}{T T':TypeId}:Y3 (DC u EE qs T) (Zx u qs.length T'):=by
 rintro c c' ob ob' h ⟨⟨l,hl⟩,h'⟩
 unfold DC at h
 have h':(Za u l.length 1 (l.map EE) T').H c' ob':=h'
 rw[hl]at h'
 exact U7 c c' ob ob' h h'
theorem pF{x:Nat}(hf:DF x=true)(hx:x<2^64):FV 20 (Hc x):=by
 have h:=aD (Uo hf hx)
 have e:DQ 40=Dg 20:=by decide+kernel
 have ha:=h.a
 have hb:=h.b
 rw[e]at ha hb
 exact⟨FR ha,FR hb⟩
def Vc:Nat→Nat
 |0=>45
 |c+1=>4*Vc c+2
theorem XV(c:Nat):Vc (c+1)=4*Vc c+2:=rfl
theorem Sc{c d:Nat}(h:c≤d):Vc c≤Vc d:=by
 induction h with
 |refl=>exact A5 _
 |step _ ih=>rw[XV];omega
theorem ZO{c:Nat}(h:c≤11):Vc c≤192000000∧1≤Vc c:=⟨Ak (Sc h) (by decide+kernel),Ak (by decide+kernel) (Sc (A7 c))⟩
theorem wS{c:Nat}(h:c≤10):3*Vc c+1≤192000000:=by
 have:Vc 10≤50000000:=by decide+kernel
 have:=Sc h
 omega
theorem FV.zero:FV 1 0:=⟨by decide+kernel,by decide+kernel⟩
theorem FV.quo'{x y:Rat}{n m:Nat}(hx:FV n x)(hy:FV m y)(h1:1≤n):FV (n+m) (x/y):=by
 by_cases h:y=0
 ·subst h
  rw[show x/0=0 by simp[Rat.div_def]]
  exact FV.zero.mono (by omega)
 exact hx.quo hy h
theorem QU{M:Nat→Nat→Rat}{i j:Nat}: ∀ {c:Nat},i≤c→HB M c i j=HB M i i j
 |0,h=>by rw[show i=0 by omega]
 |c+1,h=>by
  by_cases e:i=c+1
  ·rw[e]
  rw[JQ (by omega)];exact QU (by omega)
theorem L9{M:Nat→Nat→Rat}{n:Nat}(h: ∀ i j,i<n→j<n→FV 45 (M i j)): ∀ c i j,c≤i→i<n→j<n→FV (Vc c) (HB M c i j)
 |0,i,j,_,hi,hj=>h i j hi hj
 |c+1,i,j,hc,hi,hj=>by
  have a:=L9 h c i j (by omega) hi hj
  have b:=L9 h c i c (by omega) hi (by omega)
  have p:=L9 h c c c (A5 c) (by omega) (by omega)
  have w:=L9 h c c j (A5 c) (by omega) hj
  have h1:1≤Vc c:=Ak (by decide+kernel) (Sc (A7 c))
  rw[LA (by omega),XV]
  exact(a.sub ((b.quo' p h1).mul w)).mono (by omega)
theorem c8{M:Nat→Nat→Rat}{n:Nat}(h9:n≤12)(h: ∀ i j,i<n→j<n→FV 45 (M i j))(c i j:Nat)(hi:i<n)(hj:j<n):FV 192000000 (HB M c i j):=by
 by_cases hc:c≤i
 ·exact(L9 h c i j hc hi hj).mono (ZO (by omega)).1
 rw[QU (by omega)]
 exact(L9 h i i j (A5 i) hi hj).mono (ZO (by omega)).1
def de(M:Nat→Nat→Rat)(n c:Nat):Prop:=HB M c c c<0∨HB M c c c=0∧ ∃ i,c<i∧i<n∧HB M c i c≠0
open Classical in
noncomputable def RX (M:Nat→Nat→Rat) (k:Nat):Int:=if ∃ c,c<k∧HB M c c c=0 then 2 else 3
open Classical in
noncomputable def GY (M:Nat→Nat→Rat) (n:Nat):Int:=if ∃ c,c<n∧de M n c then 1 else RX M n
theorem wv{M:Nat→Nat→Rat}:RX M 0=3:=if_neg fun⟨c,h,_⟩=>Bl c h
theorem Tn{M:Nat→Nat→Rat}{c:Nat}(h:HB M c c c=0):RX M (c+1)=2:=if_pos ⟨c,Nat.lt_succ_self c,h⟩
theorem Xo{M:Nat→Nat→Rat}{c:Nat}(h:HB M c c c≠0):RX M (c+1)=RX M c:=by
 unfold RX
 by_cases h1: ∃ k,k<c∧HB M k k k=0
 ·obtain⟨k,a,b⟩:=h1
  rw[if_pos ⟨k,by omega,b⟩,if_pos ⟨k,a,b⟩]
 rw[if_neg h1,if_neg]
 rintro ⟨k,a,b⟩
 by_cases e:k=c
 ·exact h (e▸b)
 exact h1 ⟨k,by omega,b⟩
theorem S6{M:Nat→Nat→Rat}{n c:Nat}(hc:c<n)(h:de M n c):GY M n=1:=if_pos ⟨c,hc,h⟩
theorem LZ{M:Nat→Nat→Rat}{n:Nat}(h: ∀ c,c<n→ ¬de M n c):GY M n=RX M n:=if_neg fun⟨c,a,b⟩=>h c a b
theorem nE{M:Nat→Nat→Rat}{n:Nat}(h:GY M n=3): ∀ c,c<n→0<HB M c c c:=fun c hc=>by
 unfold GY RX at h
 by_cases hb: ∃ c,c<n∧de M n c
 ·rw[if_pos hb]at h;omega
 rw[if_neg hb]at h
 by_cases h0: ∃ c,c<n∧HB M c c c=0
 ·rw[if_pos h0]at h;omega
 have h1: ¬HB M c c c<0:=fun h1=>hb ⟨c,hc,.inl h1⟩
 have h2:HB M c c c≠0:=fun h2=>h0 ⟨c,hc,h2⟩
 generalize HB M c c c=x at*
 grind
theorem Zy{M:Nat→Nat→Rat}{n:Nat}(h: ∀ c,c<n→0<HB M c c c):GY M n=3:=by
 rw[LZ]
 ·exact if_neg fun⟨c,a,b⟩=>by have:=h c a;rw[b]at this;exact absurd this (by decide)
 rintro c hc (h1|⟨h1,_⟩)
 ·have:=h c hc;generalize HB M c c c=x at*;grind
 have:=h c hc;rw[h1]at this;exact absurd this (by decide)
theorem VN{c i j:Nat}:HB (fun _ _=>0) c i j=0:=by
 induction c generalizing i j with
 |zero=>rfl
 |succ c ih=>
  by_cases h:c<i
  ·rw[LA h,ih,ih,ih];grind
  rw[JQ (by omega),ih]
theorem XC{n:Nat}:GY (fun _ _=>0) n≠1:=by
 rw[LZ]
 ·unfold RX
  split<;>omega
 rintro c hc (h1|⟨h1,i,_,_,h2⟩)
 ·rw[VN]at h1;exact absurd h1 (by decide)
 exact h2 VN
def Vm(M:Nat→Nat→Rat)(c i:Nat):Prop:= ∀ r,c<r→r<i→HB M c c c=0→HB M c r c=0
theorem iz{qs:List Rat}{M:Nat→Nat→Rat}{n c i:Nat}(h:Sy qs M n c i)(hc:c<n):qs.getD (c*n+c) 0=HB M c c c:=by
 rw[h.2 c c hc hc]
 split
 ·exact JQ (A5 c)
 rfl
theorem iA{qs:List Rat}{M:Nat→Nat→Rat}{n c i j:Nat}(h:Sy qs M n c i)(hi:i<n)(hj:j<n):qs.getD (i*n+j) 0=HB M c i j:=by
 rw[h.2 i j hi hj,if_neg (Nat.lt_irrefl i)]
theorem Vw{qs:List Rat}{M:Nat→Nat→Rat}{n c i:Nat}(h:Sy qs M n c i)(hc:c<i)(hi:i<n)(h0:HB M c i c=0):Sy qs M n c (i+1):=by
 refine⟨h.1,fun r j hr hj=>?_⟩
 rw[h.2 r j hr hj]
 by_cases e:r=i
 ·subst e
  rw[if_neg (Nat.lt_irrefl r),if_pos (Nat.lt_succ_self r),LA hc,h0,Rat.div_def,Rat.zero_mul,Rat.zero_mul,Rat.sub_eq_add_neg,Rat.neg_zero,Rat.add_zero]
 by_cases h5:r<i
 ·rw[if_pos h5,if_pos (by omega)]
 rw[if_neg h5,if_neg (by omega)]
theorem kd{v w f:Rat}:v+w*(0-f)=v-f*w:=by grind
theorem Xs{q:Rat}:HT q.num<0↔q<0:=by
 have h:q<0↔q.num<0:=by rw[Rat.lt_iff];simp
 rw[h]
 unfold HT
 split<;>(try split)<;>omega
theorem Jp{q:Rat}:HT q.num=0↔q=0:=by rw[Zr];exact Rat.num_eq_zero
theorem UT{U:Value}{l:List Rat}{n:Nat}{T:TypeId}(h:l.length=n): ∀ c ob,(DC U EE l T).H c ob→(Zx U n T).H c ob:=fun c ob hr=>⟨⟨l,h⟩,hr⟩
theorem T4{α:Type}{mk:α→SP}{r c:Value}{u:Value}{xs:List α}{T:TypeId}:PO (DC u mk xs T) (DL [CW r,CW c,CW u]) (DL [CW r,CW c,I2 mk xs]):=fun c0 c1 ob v h hq hle hob=>by
 obtain⟨cs,h1,h2,h3⟩:=hq
 refine⟨cs,h1,h2,fun i p hp=>?_⟩
 match i,hp with
 |0,hp=>obtain⟨w,g1,g2,g3⟩:=h3 0 _ rfl;cases hp;exact⟨w,g1,g2,(CW _).st _ _ _ hle g3⟩
 |1,hp=>obtain⟨w,g1,g2,g3⟩:=h3 1 _ rfl;cases hp;exact⟨w,g1,g2,(CW _).st _ _ _ hle g3⟩
 |2,hp=>obtain⟨w,g1,g2,g3⟩:=h3 2 _ rfl;cases hp;exact⟨w,g1,g2,kc c0 c1 ob w h g3 hle hob⟩
 |i+3,hp=>simp[nth]at hp
theorem Vv{qs:List Rat}{M:Nat→Nat→Rat}{n c i:Nat}{p:Rat}(h:Sy qs M n c i)(hc:c<i)(hi:i<n)(hp:p=HB M c c c):Sy (J2 qs i c n (qs.getD (i*n+c) 0/p) n) M n c (i+1):=by
 have e:p=qs.getD (c*n+c) 0:=by rw[hp,iz h (by omega)]
 rw[e]
 exact aa h hc hi
theorem WG{M:Nat→Nat→Rat}{c:Nat}:Vm M c (c+1):=fun r h1 h2=>by omega
theorem L2{M:Nat→Nat→Rat}{c i:Nat}(h:Vm M c i)(hx:HB M c i c=0∨HB M c c c≠0):Vm M c (i+1):=fun r h1 h2 h0=>by
 by_cases e:r=i
 ·rcases hx with hx|hx
  ·rw[e];exact hx
  exact absurd h0 hx
 exact h r h1 (by omega) h0
theorem jw{M:Nat→Nat→Rat}{n c:Nat}(h0: ¬HB M c c c<0)(h:Vm M c n): ¬de M n c:=by
 rintro (h1|⟨h1,i,h2,h3,h4⟩)
 ·exact h0 h1
 exact h4 (h i h2 h3 h1)
theorem jj{n m:Nat}(h:m<n*n):m/n<n∧m % n<n∧m/n*n+m % n=m:=by
 have hn:0<n:=AS fun e=>by subst e;omega
 exact⟨Nat.div_lt_of_lt_mul h,Ap _ hn,by rw[AP];exact Cm m n⟩
theorem Xh{qs:List Rat}{M:Nat→Nat→Rat}{n:Nat}(hl:qs.length=n*n)(hM: ∀ r j,r<n→j<n→qs.getD (r*n+j) 0=M r j)(hz: ∀ i j,i<n→j<n→FV 45 (M i j))(m:Nat)(hm:m<qs.length):FV 200000000 (qs.getD m 0):=by
 obtain⟨h1,h2,h3⟩:=jj (n:=n) (m:=m) (by omega)
 rw[←h3,hM _ _ h1 h2]
 exact(hz _ _ h1 h2).mono (by omega)
theorem nF{qs:List Rat}{M:Nat→Nat→Rat}{n c i:Nat}{p:Rat}(h9:n≤12)(hz: ∀ i j,i<n→j<n→FV 45 (M i j))(h:Sy qs M n c i)(hi:i<n)(hc:c<n)(hci:c+1≤i)(hp:p=HB M c c c):
  FV 200000000 (qs.getD (i*n+c) 0/p)∧FV 200000000 (0-qs.getD (i*n+c) 0/p)∧(∀ j,j<n→FV 200000000 (qs.getD (i*n+j) 0))∧ ∀ j,j<n→FV 200000000 (qs.getD (c*n+j) 0)∧FV 200000000 (qs.getD (c*n+j) 0*(0-qs.getD (i*n+c) 0/p)):=by
 have hc10:c≤10:=by omega
 have h3:=wS hc10
 have h1:=(ZO (c:=c) (by omega)).2
 have h45:Vc 0≤Vc c:=Sc (A7 c)
 have h45':Vc 0=45:=rfl
 have a: ∀ j,j<n→FV (Vc c) (qs.getD (i*n+j) 0):=fun j hj=>by rw[iA h hi hj];exact L9 hz c i j (by omega) hi hj
 have b: ∀ j,j<n→FV (Vc c) (qs.getD (c*n+j) 0):=fun j hj=>by
  have e:qs.getD (c*n+j) 0=HB M c c j:=by
   rw[h.2 c j hc hj]
   split
   ·exact JQ (A5 c)
   rfl
  rw[e];exact L9 hz c c j (A5 c) hc hj
 have hq:FV (Vc c+Vc c) (qs.getD (i*n+c) 0/p):=(a c hc).quo' (hp▸L9 hz c c c (A5 c) hc hc) h1
 have hf:=FV.zero.sub hq
 exact⟨hq.mono (by omega),hf.mono (by omega),fun j hj=>(a j hj).mono (by omega),fun j hj=>⟨(b j hj).mono (by omega),((b j hj).mul hf).mono (by omega)⟩⟩
def PV(xs ys:List Rat)(k:Nat):List Rat:=(List.range k).map fun m=>xs.getD m 0-ys.getD m 0
theorem gO{xs ys:List Rat}{k:Nat}:PV xs ys (k+1)=PV xs ys k++ [xs.getD k 0-ys.getD k 0]:=by
 unfold PV
 rw[List.range_succ,C3]
 rfl
theorem Pw(xs ys:List Rat)(k:Nat):(PV xs ys k).length=k:=by unfold PV;simp
theorem sV{xs ys:List Rat}{k m:Nat}(h:m<k):(PV xs ys k).getD m 0=xs.getD m 0-ys.getD m 0:=by
 unfold PV
 rw[List.getD,AC,Ci h]
 rfl
theorem Jh{a b:Int}(h:a=b):CT .eql a b=true:=by rw[h];simp[CT]
theorem ZE{Q:List Nat}{k:Nat}(h:k<Q.length):(Q.take (k+1)).map Hc=(Q.take k).map Hc++ [Hc (Q.getD k 0)]:=by
 rw[GA 0 h,C3]
 rfl
theorem Ug{Q:List Nat}{k:Nat}(h:k≤Q.length):((Q.take k).map Hc).length=k:=by simp;omega
theorem ak{r c:Int}{Q:List Nat}(h:Gs r c Q=0){k:Nat}(hk:k<Q.length):DF (Q.getD k 0)=true:=B1.1 (HG.1 h).2 _ (IJ 0 hk)
end Go.Bn
