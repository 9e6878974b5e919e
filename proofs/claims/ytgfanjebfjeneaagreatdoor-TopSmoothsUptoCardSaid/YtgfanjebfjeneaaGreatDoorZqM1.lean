/-
 The logic of walks, sixth part: binary64 with all NaNs taken for one; conversions; guards; structs and slices written out. The logic of walks, seventh part: structs and slices written out, calls, function values, a function's entry and return. The logic of walks, eighth part: typed slices and small helpers that the printed walks use. The logic of walks: slices written out empty that the function owns; slices looked at for nil; answers that are not known. The logic of walks: where two ways come together. The logic of walks: slices of elements of several cells; function values of any arguments. Plain facts on the words of binary64: fields, classes, which are finite. The logic of walks: more operations (the greater of two numbers, amounts, unequal truth values, arrays, slices without room). The logic of walks: slices without room, slices made by appending, arrays that the function owns.
-/
import Derived.Test.YtgfanjebfjeneaaGreatDoorZqM0
import Derived.Lib.SliceRun
import Derived.Laws.Small
import Derived.Laws.AppendOwn
import Derived.Lib.AppendZeros
set_option linter.unusedVariables false
set_option linter.unusedSimpArgs false
namespace Go.Bn
open Go
theorem RZ:Ieee.double.signWeight=9223372036854775808:=by decide+kernel
theorem W5:Ieee.double.infRung=9218868437227405312:=by decide+kernel
theorem dg:Ieee.double.binade=4503599627370496:=by decide+kernel
theorem Jv(b:Nat):FN b=decide (9218868437227405312<b % 9223372036854775808):=by
 unfold FN Ieee.Format.read
 simp only[RZ,W5,dg]
 generalize b % 9223372036854775808=r
 by_cases h1:r<4503599627370496
 ·rw[if_pos h1,decide_eq_false (by omega)];rfl
 rw[if_neg h1]
 by_cases h2:r<9218868437227405312
 ·rw[if_pos h2,decide_eq_false (by omega)];rfl
 rw[if_neg h2]
 by_cases h3:r=9218868437227405312
 ·rw[if_pos h3,decide_eq_false (by omega)];rfl
 rw[if_neg h3,decide_eq_true (by omega)];rfl
theorem WE:FN oJ=true:=by rw[Jv];decide
theorem EA{b:Nat}(h:FN b=false):cn b=b:=by simp[cn,h]
theorem Hr{b:Nat}(h:FN b=true):cn b=oJ:=by simp[cn,h]
theorem Mn(b:Nat):FN (cn b)=FN b:=by
 cases h:FN b
 ·rw[EA h,h]
 rw[Hr h,WE]
theorem yd(b:Nat):cn (cn b)=cn b:=by
 cases h:FN b
 ·rw[EA h,EA h]
 rw[Hr h];exact Hr WE
theorem uh:oJ<2^64:=by decide
theorem au{b:Nat}(h:b<2^64):cn b<2^64:=by
 unfold cn;split
 ·exact uh
 exact h
theorem Pn(neg:Bool){r:Nat}(h:r≤9218868437227405312):FN (Ieee.double.word neg r)=false∧Ieee.double.word neg r<2^64:=by
 rw[Jv]
 unfold Ieee.Format.word
 rw[RZ]
 cases neg
 ·simp only[Cs,if_false]
  exact⟨decide_eq_false (by omega),by omega⟩
 simp only[if_true]
 exact⟨decide_eq_false (by omega),by omega⟩
theorem M4{d:Ieee.Datum}(h:d.isNaN=false):FN (Ieee.double.write d)=false∧Ieee.double.write d<2^64:=by
 cases d with
 |number neg mag place=>
  simp only[Ieee.Format.write]
  unfold Ieee.Format.nearest
  split
  ·exact Pn neg (by omega)
  exact Pn neg (by rw[←W5];exact Nat.min_le_right ..)
 |infinity neg=>simp only[Ieee.Format.write];exact Pn neg (by rw[W5];exact A5 _)
 |nan neg fr=>cases h
theorem UZ{x y d:Ieee.Datum}(h:x.sum y=some d):d.isNaN=false∧x.isNaN=false∧y.isNaN=false:=by
 cases x<;>cases y<;>simp only[Ieee.Datum.sum]at h<;>first
  |(cases h;done)
  |(cases h;exact⟨rfl,rfl,rfl⟩)
  |(split at h<;>first|(cases h;done)|(cases h;exact⟨rfl,rfl,rfl⟩))
theorem Zd{x y d:Ieee.Datum}(h:x.product y=some d):d.isNaN=false∧x.isNaN=false∧y.isNaN=false:=by
 cases x<;>cases y<;>simp only[Ieee.Datum.product]at h<;>first
  |(cases h;done)
  |(cases h;exact⟨rfl,rfl,rfl⟩)
  |(split at h<;>first|(cases h;done)|(cases h;exact⟨rfl,rfl,rfl⟩))
theorem Xa{n:Nat}{x y d:Ieee.Datum}(h:x.quotient n y=some d):d.isNaN=false∧x.isNaN=false∧y.isNaN=false:=by
 cases x<;>cases y<;>simp only[Ieee.Datum.quotient]at h<;>first
  |(cases h;done)
  |(cases h;exact⟨rfl,rfl,rfl⟩)
  |(split at h<;>first|(cases h;done)|(cases h;exact⟨rfl,rfl,rfl⟩)|(split at h<;>first|(cases h;done)|(cases h;exact⟨rfl,rfl,rfl⟩)))
theorem rh(x:Ieee.Datum):x.opposite.isNaN=x.isNaN:=by cases x<;>rfl
def ME(op:BinOp)(x y:Nat):Option Nat:=floatBits op .f64 x y
theorem N1{op:BinOp}{x y r:Nat}(h:ME op x y=some r):FN r=false∧r<2^64∧FN x=false∧FN y=false:=by
 unfold ME floatBits at h
 have key: ∀ {o:Option Ieee.Datum},o.map Ieee.double.write=some r→(∀ d,o=some d→d.isNaN=false∧(Ieee.double.read x).isNaN=false∧(Ieee.double.read y).isNaN=false)→FN r=false∧r<2^64∧FN x=false∧FN y=false:=by
  intro o ho hd
  cases o with
  |none=>cases ho
  |some d=>
   cases ho
   obtain⟨g1,g2,g3⟩:=hd d rfl
   exact⟨(M4 g1).1,(M4 g1).2,g2,g3⟩
 cases op<;>simp only at h<;>first|(cases h;done)|skip
 ·exact key h fun d hd=>UZ hd
 ·exact key h fun d hd=>by have:=UZ hd;rw[rh]at this;exact this
 ·exact key h fun d hd=>Zd hd
 exact key h fun d hd=>Xa hd
theorem jf{op:BinOp}{x y:Nat}:ti (ME op (cn x) (cn y))=match ME op x y with|some r=>r|none=>oJ:=by
 cases h:ME op x y with
 |some r=>
  obtain⟨_,_,h1,h2⟩:=N1 h
  rw[EA h1,EA h2,h];rfl
 |none=>
  cases h':ME op (cn x) (cn y)with
  |none=>rfl
  |some r=>
   obtain⟨_,_,h1,h2⟩:=N1 h'
   rw[Mn]at h1 h2
   rw[EA h1,EA h2,h]at h'
   cases h'
theorem Mo(q:FloatKind→Nat→Nat→Question)(hq:q= .nanBits∨(∃ b,q=fun k x y=> .nanMinMax k b x y))(x y t:Nat):FN ((q .f64 x y).cut t)=true∧(q .f64 x y).cut t<2^64:=by
 have e:(q .f64 x y).cut t=(t % 2)*2^63+0x7ff0000000000000+1+(t/2) % (2^52-1):=by
  rcases hq with h|⟨b,h⟩<;>subst h<;>rfl
 rw[e,Jv]
 have h1:t % 2<2:=Ap _ (by omega)
 have h2:(t/2) % (2^52-1)<2^52-1:=Ap _ (by decide)
 generalize t % 2=u at*
 generalize (t/2) % (2^52-1)=w at*
 have h3:u=0∨u=1:=by omega
 rcases h3 with rfl|rfl<;>exact⟨decide_eq_true (by omega),by omega⟩
section ops
variable {P:Program} {n:Nat} {ops:Array Oper} {Γ:D2} {ρ:DU} {δ:DK} {τ:List VR}
variable {d:Nat} {ty:TypeId} {pos:String} {af:Array Edge}
theorem Up{op:Op}{p:SP}
  (h: ∀ (a:Act) (c:EW),FH Γ c→(∀ x q,x∈op.operands→Lk Γ δ ρ x q→q.H (a.eval x) c)→ ∃ v m,(execOp a.eval ⟨some d,op,ty,pos,af,none⟩).run P c.w= .ok (.value v) {c.w with drawn:=m}∧ ∀ c',p.H v c'):
  OpOK P n ops Γ ρ δ τ ⟨some d,op,ty,pos,af,none⟩ .no (.c p) ET:=by
 intro a c ob hs hwf hf hr _ hno _
 obtain⟨v,m,hv,hp⟩:=h a c hf (fun x q hx hq=>Lk.val (o:=⟨some d,op,ty,pos,af,none⟩) hr hf hx hq)
 simp only[Region.wanted,if_true]
 unfold GP
 rw[hv]
 exact⟨⟨{c.w with drawn:=m},c.M⟩,ob,rfl,⟨rfl,rfl,rfl,A5 _,fun _ _ _=>rfl,fun _ _=>⟨id,.inl⟩,.inl rfl,hwf⟩,hp _,fun h=>(by cases h)⟩
theorem FD{x y:Operand}{t t':TypeId}{op:BinOp}{a b r:Nat}(hop:op= .add∨op= .sub∨op= .mul∨op= .quo)(hx:Lk Γ δ ρ x (Dm a))(hy:Lk Γ δ ρ y (Dm b))(hr:ti (ME op a b)=r):
  OpOK P n ops Γ ρ δ τ ⟨some d,.binOp op t x y t',ty,pos,af,none⟩ .no (.c (Dm r)) ET:=
 Up fun A c _ hrd=>by
  subst hr
  obtain⟨b1,h1,h2,rfl⟩:=hrd x _ (by simp[Op.operands]) hx
  obtain⟨b2,h3,h4,rfl⟩:=hrd y _ (by simp[Op.operands]) hy
  rw[jf]
  cases hf:ME op b1 b2 with
  |some r=>
   have hrun:=run_float_arith (P:=P) c.w op t .f64 b1 b2 r hf
   obtain⟨g1,g2,_⟩:=N1 hf
   refine⟨.float .f64 r,c.w.drawn,?_,fun _=>⟨r,rfl,g2,EA g1⟩⟩
   rcases hop with h|h|h|h<;>subst h<;>simp[execOp,eqGuard,h1,h3,hrun]
  |none=>
   refine⟨.float .f64 ((Question.nanBits .f64 b1 b2).cut (c.w.tape c.w.drawn (.nanBits .f64 b1 b2))),c.w.drawn+1,?_,fun _=>⟨_,rfl,(Mo .nanBits (.inl rfl) b1 b2 _).2,Hr (Mo .nanBits (.inl rfl) b1 b2 _).1⟩⟩
   have hF:FloatKind.f64.format=Ieee.double:=rfl
   rcases hop with h|h|h|h<;>subst h<;>simp only[ME,floatBits,hF]at hf<;>simp[execOp,eqGuard,h1,h3,binOp,Op.floatArith,hF,hf,choose,Sem.run,Question.forced]
theorem xG{tx0 ty0:Nat}{t t':TypeId}{op:BinOp}{a b r:Nat}(hop:op= .add∨op= .sub∨op= .mul∨op= .quo)(hx:(DA δ ρ tx0,DA δ ρ ty0,ti (ME op a b))=(some (.c (Dm a)),some (.c (Dm b)),r)):OpOK P n ops Γ ρ δ τ ⟨some d,.binOp op t (Operand.tmp tx0) (Operand.tmp ty0) t',ty,pos,af,none⟩ .no (.c (Dm r)) ET:=by
 simp only[Ai]at hx
 obtain⟨hx,hy,hr⟩:=hx
 exact FD hop (.t hx) (.t hy) hr
def Lp(x y:Nat):Option Ordering:=Ieee.double.order x y
theorem Ra{x y:Nat}(h:FN x=true∨FN y=true):Lp x y=none:=by
 unfold Lp Ieee.Format.order
 unfold FN at h
 cases hx:Ieee.double.read x<;>cases hy:Ieee.double.read y<;>rw[hx,hy]at h<;>simp[Ieee.Datum.isNaN]at h<;>rfl
theorem pS(x y:Nat):Lp (cn x) (cn y)=Lp x y:=by
 by_cases h:FN x=true∨FN y=true
 ·rw[Ra h,Ra (by rw[Mn,Mn];exact h)]
 have h1:FN x=false:=by
  cases e:FN x
  ·rfl
  exact(h (.inl e)).elim
 have h2:FN y=false:=by
  cases e:FN y
  ·rfl
  exact(h (.inr e)).elim
 rw[EA h1,EA h2]
def Gp(op:BinOp)(x y:Nat):Bool:=
 match op with
 | .eql=>Lp x y==some .eq
 | .neq=>Lp x y !=some .eq
 | .lss=>Lp x y==some .lt
 | .leq=>Lp x y==some .lt||Lp x y==some .eq
 | .gtr=>Lp x y==some .gt
 |_=>Lp x y==some .gt||Lp x y==some .eq
theorem Hk{x y:Operand}{t t':TypeId}{op:BinOp}{a b:Nat}{r:Bool}(hop:op= .eql∨op= .neq∨op= .lss∨op= .leq∨op= .gtr∨op= .geq)(hx:Lk Γ δ ρ x (Dm a))(hy:Lk Γ δ ρ y (Dm b))(hr:Gp op a b=r):
  OpOK P n ops Γ ρ δ τ ⟨some d,.binOp op t x y t',ty,pos,af,none⟩ .no (.c (CW (.bool r))) ET:=
 DE fun A c _ hrd=>by
  subst hr
  obtain⟨b1,h1,h2,rfl⟩:=hrd x _ (by simp[Op.operands]) hx
  obtain⟨b2,h3,h4,rfl⟩:=hrd y _ (by simp[Op.operands]) hy
  refine⟨.bool (Gp op (cn b1) (cn b2)),?_,rfl,rfl⟩
  have hF:FloatKind.f64.format=Ieee.double:=rfl
  have ho:Ieee.double.order b1 b2=Lp (cn b1) (cn b2):=by rw[pS];rfl
  rcases hop with h|h|h|h|h|h<;>subst h<;>simp[execOp,eqGuard,binOp,Op.floatCmp,h1,h3,Gp,hF,ho]
def aV(P:Program)(T:TypeId):Option IntKind:=match P.underlying T with|some (.int k)=>some k|_=>none
def pG(P:Program)(T:TypeId):Bool:=match P.underlying T with|some (.float .f64)=>true|_=>false
theorem yG{x:Operand}{S T:TypeId}{k k':IntKind}{z z':Int}(hS:aV P S=some k)(hT:aV P T=some k')(hx:Lk Γ δ ρ x (CW (.int k z)))(hz:k'.wrap z=z'):
  OpOK P n ops Γ ρ δ τ ⟨some d,.convert S T x,ty,pos,af,none⟩ .no (.c (CW (.int k' z'))) ET:=
 DE fun A c _ hr=>by
  subst hz
  have h:=(hr x _ (by simp[Op.operands]) hx).1
  have hu:P.underlying S=some (.int k):=by
   unfold aV at hS;split at hS
   ·rename_i h';cases hS;exact h'
   cases hS
  have hu':P.underlying T=some (.int k'):=by
   unfold aV at hT;split at hT
   ·rename_i h';cases hT;exact h'
   cases hT
  exact⟨.int k' (k'.wrap z),by simp[execOp,convert,run_underlying hu,run_underlying hu',h,Conv.intToInt],rfl,rfl⟩
theorem xg{tx0:Nat}{S T:TypeId}{k k':IntKind}{z z':Int}(hS:aV P S=some k)(hT:aV P T=some k')(hx:DA δ ρ tx0=some (.c (CW (.int k z))))(hz:k'.wrap z=z'):OpOK P n ops Γ ρ δ τ ⟨some d,.convert S T (Operand.tmp tx0),ty,pos,af,none⟩ .no (.c (CW (.int k' z'))) ET:=by
 exact yG hS hT (.t hx) hz
theorem va{T:TypeId}(h:pG P T=true):P.underlying T=some (.float .f64):=by
 unfold pG at h;split at h
 ·rename_i h';exact h'
 cases h
theorem WR{x:Operand}{S T:TypeId}{k:IntKind}{z:Int}{r:Nat}(hS:aV P S=some k)(hT:pG P T=true)(hx:Lk Γ δ ρ x (CW (.int k z)))(hr':FloatKind.f64.nearest z=r):
  OpOK P n ops Γ ρ δ τ ⟨some d,.convert S T x,ty,pos,af,none⟩ .no (.c (Dm r)) ET:=
 DE fun A c _ hr=>by
  subst hr'
  have h:=(hr x _ (by simp[Op.operands]) hx).1
  have hu:P.underlying S=some (.int k):=by
   unfold aV at hS;split at hS
   ·rename_i h';cases hS;exact h'
   cases hS
  have hw:=M4 (d:= .number (decide (z<0)) z.natAbs 0) rfl
  refine⟨.float .f64 (FloatKind.f64.nearest z),by simp[execOp,convert,run_underlying hu,run_underlying (va hT),h,Conv.intToFloat],_,rfl,hw.2,EA hw.1⟩
theorem Lk.fk{b:Nat}(h:Nat.blt b (2^64)=true)(hn:FN b=false):Lk Γ δ ρ (.const (.float .f64 b)) (Dm b):=fun _ _=>⟨b,rfl,HE h,EA hn⟩
theorem yA{op:Op}{j:Nat}{want:Bool}{acc:Jg}{p:SP}{r':VR}{dj:Nat}{C:Prop}(hacc:acc.w=false)(hj:(ops[j]?).bind (·.dst)=some dj)
  (hy: ∃ q,DA δ ρ dj=some q∧ ∀ f v c,FH Γ c→(q.at f).H v c→(v= .bool want↔C))
  (h:C→OpOK P n ops Γ ρ δ τ ⟨some d,op,ty,pos,af,none⟩ acc (.c p) r'):
  OpOK P n ops Γ ρ δ τ ⟨some d,op,ty,pos,af,some (j,want)⟩ acc (.c (whn C p)) r':=by
 intro a c ob hs hwf hf hr hres hno hown
 obtain⟨q,hq,hqv⟩:=hy
 have hlook:dj∈Oper.looksAt ops ⟨some d,op,ty,pos,af,some (j,want)⟩:=by
  simp only[Oper.looksAt,hj,Option.toList_some,BD,AE,or_true]
 have hv:=hqv _ _ c hf (hr dj hlook q hq)
 have hw:Region.wanted ⟨some d,op,ty,pos,af,some (j,want)⟩ (yielded ops a.tmps)=true↔C:=by
  rw[←hv]
  unfold Region.wanted yielded
  simp only[hj,BT]
  unfold vl
  rw[show a.tmps.getD dj undef=(a.tmps[dj]?).getD undef by simp[Cd]]
  cases ht:a.tmps[dj]? with
  |none=>simp[undef]
  |some u=>
   cases u<;>simp
 by_cases hC:C
 ·have hm:=h hC a c ob hs hwf hf (fun t ht q' hq'=>hr t (by simp only[Oper.looksAt,List.append_nil]at ht⊢;exact B3 _ ht) q' hq') hres hno hown
  simp only[Region.wanted,if_true]at hm
  rw[if_pos (hw.2 hC)]
  refine GP.mono hm ?_
  rintro v w' ⟨c',ob',h1,h2,h3,h4⟩
  exact⟨c',ob',h1,h2,⟨fun _=>h3,fun hn=>(hn hC).elim⟩,h4⟩
 rw[if_neg (fun h=>hC (hw.1 h))]
 exact⟨hacc,fun h=>(hC h).elim,fun _=>rfl⟩
theorem a1g{dj:Nat}{b want:Bool}(h:DA δ ρ dj=some (.c (CW (.bool b)))): ∃ q,DA δ ρ dj=some q∧ ∀ f v c,FH Γ c→(q.at f).H v c→(v= .bool want↔b=want):=
 ⟨_,h,fun f v c _ hv=>by rw[hv.1];simp⟩
theorem gu{op:Op}{j:Nat}{want:Bool}{acc:Jg}{p:SP}{r':VR}{dj:Nat}{C:Bool}(h:(acc.w,(ops[j]?).bind (·.dst),DA δ ρ dj)=(false,some dj,some (.c (CW (.bool C)))))(h':C=want→OpOK P n ops Γ ρ δ τ ⟨some d,op,ty,pos,af,none⟩ acc (.c p) r'):OpOK P n ops Γ ρ δ τ ⟨some d,op,ty,pos,af,some (j,want)⟩ acc (.c (whn (C=want) p)) r':=by
 simp only[Ai]at h
 exact yA h.1 h.2.1 (a1g h.2.2) h'
theorem Sl{dj:Nat}{b want:Bool}{C:Prop}(h:DA δ ρ dj=some (.c (whn C (CW (.bool b))))): ∃ q,DA δ ρ dj=some q∧ ∀ f v c,FH Γ c→(q.at f).H v c→(v= .bool want↔(C∧b=want)):=
 ⟨_,h,fun f v c _ hv=>by
  by_cases hC:C
  ·rw[(hv.1 hC).1];simp[hC]
  rw[hv.2 hC];simp[hC,undef]⟩
theorem Lk.w{t:Nat}{C:Prop}{p:SP}(h:DA δ ρ t=some (.c (whn C p)))(hC:C):Lk Γ δ ρ (.tmp t) p:=⟨_,h,fun _ _ _ _ hv=>hv.1 hC⟩
theorem Ng{t:Nat}{q:VE}(h:DA δ ρ t=some q)(hd:q.D.contains d=false):OpOK P n ops Γ ρ δ τ ⟨some d,.move (.tmp t),ty,pos,af,none⟩ .no q ET:=by
 intro a c ob hs hwf hf hr _ hno _
 simp only[Region.wanted,if_true]
 refine⟨c,ob,rfl,Tr.refl hwf,?_,fun h=>(by cases h)⟩
 rw[q.congr (Sx (vl a) (some d) _) (vl a) fun t' ht'=>Pk _ _ _ _ (fun e=>by cases e;simp at hd;exact hd ht')]
 exact hr t (B3 _ (BM.2 ⟨.tmp t,by simp[Op.operands],rfl⟩)) q h
theorem yX{t:Nat}{q:VE}(h:DA δ ρ t=some q)(hd:q.D.contains d=false):OpOK P n ops Γ ρ δ τ ⟨some d,.assign (.tmp t),ty,pos,af,none⟩ .no q ET:=by
 intro a c ob hs hwf hf hr _ hno _
 simp only[Region.wanted,if_true]
 refine⟨c,ob,rfl,Tr.refl hwf,?_,fun h=>(by cases h)⟩
 rw[q.congr (Sx (vl a) (some d) _) (vl a) fun t' ht'=>Pk _ _ _ _ (fun e=>by cases e;simp at hd;exact hd ht')]
 exact hr t (B3 _ (BM.2 ⟨.tmp t,by simp[Op.operands],rfl⟩)) q h
end ops
def PD(P:Program)(T:TypeId):Option (List (Nat×Nat)):=match P.underlying T with
 |some (.struct fs)=>go fs.toList
 |_=>none
where go:List Field→Option (List (Nat×Nat))
 |[]=>some []
 |f::l=>match P.info? f.type,go l with
  |some i,some r=>some ((f.offset,i.size)::r)
  |_,_=>none
theorem QY: ∀ (vs:List Value) (off k:Nat) (cs:Array Value),off+k+vs.length≤cs.size→
  ∀ i,((vs.zipIdx k).foldl (fun cs (x:Value×Nat)=>cs.setIfInBounds (off+x.2) x.1) cs)[i]? =if off+k≤i∧i<off+k+vs.length then vs[i-(off+k)]? else cs[i]?
 |[],off,k,cs,_,i=>by simp;intro h1 h2;omega
 |v::vs,off,k,cs,hl,i=>by
  simp only[List.zipIdx_cons,List.foldl_cons]
  simp only[AG]at hl
  rw[QY vs off (k+1) (cs.setIfInBounds (off+k) v) (by simp;omega) i]
  simp only[AG]
  by_cases h1:off+(k+1)≤i∧i<off+(k+1)+vs.length
  ·rw[if_pos h1,if_pos (by omega)]
   have e:i-(off+k)=(i-(off+(k+1)))+1:=by omega
   rw[e,List.getElem?_cons_succ]
  rw[if_neg h1]
  by_cases h2:i=off+k
  ·subst h2
   have hlt:off+k<cs.size:=by omega
   rw[if_pos (by omega)]
   simp[hlt]
  rw[if_neg (by omega)]
  simp[Array.getElem?_setIfInBounds,Ne.symm h2]
theorem Lg: ∀ (vs:List (Value×Nat)) (off:Nat) (cs:Array Value),(vs.foldl (fun cs (x:Value×Nat)=>cs.setIfInBounds (off+x.2) x.1) cs).size=cs.size
 |[],_,_=>rfl
 |v::vs,off,cs=>by simp only[List.foldl_cons];rw[Lg vs off];simp
section ops
variable {P:Program} {n:Nat} {ops:Array Oper} {Γ:D2} {ρ:DU} {δ:DK} {τ:List VR}
variable {d:Nat} {ty:TypeId} {pos:String} {af:Array Edge}
inductive Ie(Γ:D2)(δ:DK)(ρ:DU)(place:Nat→Option (Nat×Nat)):List (Nat×Operand)→List SP→List SP→Prop where
 |nil {cs:List SP}:Ie Γ δ ρ place [] cs cs
 |cons {i:Nat} {x:Operand} {rest:List (Nat×Operand)} {off size:Nat} {p:SP} {l cs cs1 out:List SP} (h1:place i=some (off,size)) (h2:Lk Γ δ ρ x p) (h3:F8 p l) (h4:Nat.beq l.length size=true) (h5:Yi off l cs cs1)
   (hr:Ie Γ δ ρ place rest cs1 out):Ie Γ δ ρ place ((i,x)::rest) cs out
theorem Ie.run{place:Nat→Option (Nat×Nat)}{parts:List (Nat×Operand)}{cs out:List SP}(h:Ie Γ δ ρ place parts cs out){a:Act}{c:EW}
  (hr: ∀ x p,x∈parts.map (·.2)→Lk Γ δ ρ x p→p.H (a.eval x) c): ∀ cells:Array Value,cells.size=cs.length→CL cs cells 0 c→
  ∃ cells',Instr.fill place cells (parts.map fun x=>(x.1,a.eval x.2))=some cells'∧cells'.size=out.length∧CL out cells' 0 c:=by
 induction h with
 |nil=>exact fun cells h1 h2=>⟨cells,rfl,h1,h2⟩
 | @cons i x rest off size p l cs cs1 out h1 h2 h3 h4 h5 hrest ih=>
  intro cells hsz hcl
  have hv:=hr x p (by simp) h2
  obtain⟨g1,g2⟩:=h3 _ c hv
  have h4':=Bj h4
  obtain⟨q1,q2,q3⟩:=h5
  let cells1:=(a.eval x).cells.zipIdx.foldl (fun cs (x:Value×Nat)=>cs.setIfInBounds (off+x.2) x.1) cells
  have e1:cells1=((a.eval x).cells.toList.zipIdx 0).foldl (fun cs (x:Value×Nat)=>cs.setIfInBounds (off+x.2) x.1) cells:=by
   show(a.eval x).cells.zipIdx.foldl _ cells=_
   rw[←Array.foldl_toList]
   simp
  have hs1:cells1.size=cs1.length:=by rw[e1,Lg,hsz,q1]
  have hc1:CL cs1 cells1 0 c:=fun j q hj=>by
   rw[q3 j]at hj
   rw[Aq,e1,QY _ off 0 cells (by simp[g1];omega) j]
   simp only[Bx,Array.length_toList,g1]
   by_cases hj1:off≤j∧j<off+l.length
   ·rw[if_pos hj1]at hj⊢
    have:=g2 (j-off) q hj
    simpa using this
   rw[if_neg hj1]at hj⊢
   have:=hcl j q hj
   simpa using this
  obtain⟨cells',r1,r2,r3⟩:=ih (fun x' p' hx'=>hr x' p' (by simp only[Br,AH];exact .inr hx')) cells1 hs1 hc1
  refine⟨cells',?_,r2,r3⟩
  simp only[Br,Instr.fill,h1]
  rw[if_neg (by simp[g1,h4',hsz];omega)]
  exact r1
theorem RW: ∀ (fs:List Field) (pl:List (Nat×Nat)) (w:World),PD.go P fs=some pl→(fs.mapM (fun f:Field=>(do pure (f.offset,←sizeOf f.type):Sem (Nat×Nat)))).run P w= .ok pl w
 |[],pl,w,h=>by simp only[PD.go,Ah]at h;subst h;rfl
 |f::fs,pl,w,h=>by
  simp only[PD.go]at h
  split at h
  ·rename_i i r hi hr
   cases h
   have ih:=RW fs r w hr
   rw[List.mapM_cons]
   have hs:(sizeOf f.type).run P w= .ok i.size w:=by simp[sizeOf,typeInfo,hi]
   simp only[Sem.run_bind,hs,Result.andThen_ok,Sem.run_pure,ih]
  cases h
theorem zCL{zs:List Value}(h1:zs.all (·.oneCell')=true){c:EW}:CL (zs.map CW) zs.toArray 0 c:=fun i p hp=>by
 rw[Dq,AC]at hp
 cases hu:zs[i]? with
 |none=>rw[hu]at hp;cases hp
 |some u=>
  rw[hu]at hp
  cases hp
  have h1u:u.oneCell'=true:=(B1.1 h1) u (Bh hu)
  exact⟨u,by simpa using hu,h1u,rfl,h1u⟩
theorem D1{T:TypeId}{parts:List (Nat×Operand)}{zs:List Value}{pl:List (Nat×Nat)}{out:List SP}(hz:HC P T=some zs)(h1:zs.all (·.oneCell')=true)(hp:PD P T=some pl)(hb:Ie Γ δ ρ (nth pl) parts (zs.map CW) out):
  OpOK P n ops Γ ρ δ τ ⟨some d,.build T parts.toArray,ty,pos,af,none⟩ .no (.c (DL out)) ET:=
 DE fun a c _ hr=>by
  unfold HC at hz
  unfold PD at hp
  cases hi:P.info? T with
  |none=>rw[hi]at hz;cases hz
  |some i=>
   rw[hi]at hz
   simp only[BT]at hz
   cases hzz:i.zero with
   |none=>rw[hzz]at hz;cases hz
   |some z=>
    rw[hzz]at hz
    simp only[AL,Ah]at hz
    cases hu:P.underlying T with
    |none=>rw[hu]at hp;cases hp
    |some D=>
     rw[hu]at hp
     cases D<;>first|(cases hp;done)|skip
     rename_i fs
     simp only at hp
     have hza:z.cells=zs.toArray:=by rw[←hz]
     obtain⟨cells',q1,q2,q3⟩:=hb.run (a:=a) (c:=c) (fun x p hx hp'=>hr x p (by simpa[Op.operands]using hx) hp') z.cells (by rw[hza];simp) (by rw[hza];exact zCL h1)
     refine⟨.agg cells',?_,cells',rfl,q2,q3⟩
     have hm:(fs.mapM (fun f:Field=>(do pure (f.offset,←sizeOf f.type):Sem (Nat×Nat)))).run P c.w= .ok pl.toArray c.w:=by
      rw[Array.mapM_eq_mapM_toList]
      simp only[Sem.run_map,RW fs.toList pl c.w hp,Result.andThen_ok]
     have hf:Instr.fill (pl.toArray[·]?) z.cells (parts.map fun x=>(x.1,a.eval x.2))=some cells':=by
      rw[←q1]
      congr 1
      funext j
      simp[Dq]
     simp only[execOp,Instr.build,zeroValue,typeInfo,Sem.run_bind,program,Sem.run,hi,hzz,Result.andThen_ok,Sem.run_pure,run_underlying hu,hm,List.map_toArray,hf]
theorem WN{op:Op}{T m kk:Nat}{cells:List SP}(hlen:cells.length=m*kk)
  (h: ∀ (a:Act) (c:EW),FH Γ c→(∀ x q,x∈op.operands→Lk Γ δ ρ x q→q.H (a.eval x) c)→ ∃ cap cur,(execOp a.eval ⟨some d,op,ty,pos,af,none⟩).run P c.w= .ok (.value (.slice (some ⟨c.w.heap.size,0,none⟩) m cap)) (c.w.alloc (.cells cur T))∧m≤cap∧cap≤maxLen∧CL cells cur 0 c):
  OpOK P n ops Γ ρ δ τ ⟨some d,op,ty,pos,af,none⟩ .no (.c (Mv m kk cells)) ET:=by
 intro a c ob hs hwf hf hr hres hno hown
 have hob:=hno rfl
 subst hob
 obtain⟨cap,cur,hex,h1,h2,h4⟩:=h a c hf (fun x q hx hq=>Lk.val (o:=⟨some d,op,ty,pos,af,none⟩) hr hf hx hq)
 simp only[Region.wanted,if_true]
 unfold GP
 rw[hex]
 have e:(c.w.alloc (.cells cur T)).heap.size=c.w.heap.size+1:=by simp
 have htr:Tr c Ix false ⟨c.w.alloc (.cells cur T),c.M⟩ Ix:=
  ⟨rfl,rfl,rfl,by simp,fun j hj _=>heap_alloc_old c.w _ j hj,fun j hj=>⟨id,.inl⟩,.inl rfl,fun j hj=>by
   show j<(c.w.alloc (.cells cur T)).heap.size
   rw[e]
   have:=hwf j hj;omega⟩
 refine⟨_,Ix,rfl,htr,⟨hlen,.inr ⟨⟨c.w.heap.size,0,none⟩,cap,rfl,h1,h2,.inr ⟨c.w.heap.size,0,rfl,fun hm=>?_,cur,T,(0,0),heap_alloc_new c.w _,h4.st (htr.le (fun _ h=>by cases h))⟩⟩⟩,fun h=>(by cases h)⟩
 have:=hwf _ hm
 omega
theorem So{T E es eb len:Nat}{parts:List (Nat×Operand)}{zs:List Value}{out:List SP}(ht:Iu P T=some (E,es,eb))(hz:HC P E=some zs)(hz1:zs.all (·.oneCell')=true)(hzl:Nat.beq zs.length es=true)(hes:Nat.blt 0 es=true)(hlim:Nat.ble (len*es) 16777216=true)
  (hb:Ie Γ δ ρ (fun i=>some (i*es,es)) parts (List.replicate len (zs.map CW)).flatten out):
  OpOK P n ops Γ ρ δ τ ⟨some d,.buildSlice T len parts.toArray,ty,pos,af,none⟩ .no (.c (Mv len es out)) ET:=by
 have hzl':zs.length=es:=Bj hzl
 have hes':=HE hes
 have hlim':len*es≤16777216:=A8 hlim
 have hlen0:((List.replicate len (zs.map CW)).flatten).length=len*es:=by simp[hzl']
 have hlo:out.length=len*es:=by
  have: ∀ {parts:List (Nat×Operand)} {cs out:List SP},Ie Γ δ ρ (fun i=>some (i*es,es)) parts cs out→out.length=cs.length:=by
   intro parts cs out h
   induction h with
   |nil=>rfl
   |cons h1 h2 h3 h4 h5 hr ih=>rw[ih,h5.1]
  rw[this hb,hlen0]
 refine WN (T:=E) hlo fun a c _ hr=>?_
 obtain⟨hu,i,hi,hsz,_⟩:=Ll ht
 unfold HC at hz
 rw[hi]at hz
 simp only[BT]at hz
 cases hzz:i.zero with
 |none=>rw[hzz]at hz;cases hz
 |some z=>
  rw[hzz]at hz
  simp only[AL,Ah]at hz
  have hza:z.cells=zs.toArray:=by rw[←hz]
  have hzsz:z.cells.size=es:=by rw[hza];simpa using hzl'
  have hcl:CL (List.replicate len (zs.map CW)).flatten (madeCells z.cells (len*es)) 0 c:=fun j p hj=>by
   have hjl:=Ho hj
   rw[hlen0]at hjl
   have hmod:j % es<es:=Ap _ hes'
   have hp:nth (List.replicate len (zs.map CW)).flatten j=(nth zs (j % es)).map CW:=by
    rw[Dq,Dq]
    have key: ∀ (m:Nat) (j:Nat),j<m*es→((List.replicate m (zs.map CW)).flatten)[j]? =(zs[j % es]?).map CW:=by
     intro m
     induction m with
     |zero=>intro j hj;omega
     |succ m ih=>
      intro j hj
      rw[C5,List.flatten_cons]
      by_cases hjs:j<es
      ·rw[AW (by simp[hzl'];exact hjs),AC,BH hjs]
      rw[Bp (by simp[hzl'];omega)]
      simp only[Az,hzl']
      rw[ih (j-es) (by rw[B6]at hj;omega),←Nat.mod_eq_sub_mod (by omega)]
    exact key len j hjl
   rw[hp]at hj
   cases hzv:nth zs (j % es)with
   |none=>rw[hzv]at hj;cases hj
   |some zv=>
    rw[hzv]at hj
    cases hj
    have hone:zv.oneCell'=true:=(B1.1 hz1) zv (by rw[Dq]at hzv;exact Bh hzv)
    refine⟨zv,?_,hone,rfl,hone⟩
    rw[Aq]
    simp only[madeCells,Array.getElem?_map,hzsz]
    rw[Ce (by simpa using hjl)]
    simp only[Array.getElem_range,AL,Ah]
    rw[Dq]at hzv
    rw[getElem!_def,hza]
    simp[hzv]
  obtain⟨cells',q1,q2,q3⟩:=hb.run (a:=a) (c:=c) (fun x p hx hp'=>hr x p (by simpa[Op.operands]using hx) hp') (madeCells z.cells (len*es)) (by rw[size_madeCells,hlen0]) hcl
  refine⟨len,cells',?_,A5 _,?_,q3⟩
  ·have h24: ¬(16777216<len*es):=by omega
   by_cases hl0:len*es=0
   ·have hempty:madeCells z.cells (len*es)= #[]:=by rw[hl0];simp[madeCells]
    rw[hempty]at q1
    simp[execOp,Instr.buildSlice,run_underlying hu,sizeOf,typeInfo,hi,hsz,hl0,newRow,Array.range_zero',q1]
   unfold madeCells at q1
   simp[execOp,Instr.buildSlice,run_underlying hu,sizeOf,typeInfo,hi,hsz,hl0,h24,zeroValue,hzz,newRow,q1]
  have h1:len≤len*es:=BG _ hes'
  simp only[maxLen];omega
theorem xC{T E es eb len:Nat}{parts:List (Nat×Operand)}{zs:List Value}{out:List SP}(ht:Iu P T=some (E,es,eb))(hz:HC P E=some zs)(hz1:(zs.all (·.oneCell'),Nat.beq zs.length es,Nat.blt 0 es,Nat.ble (len*es) 16777216)=(true,true,true,true))(hb:Ie Γ δ ρ (fun i=>some (i*es,es)) parts (List.replicate len (zs.map CW)).flatten out):OpOK P n ops Γ ρ δ τ ⟨some d,.buildSlice T len parts.toArray,ty,pos,af,none⟩ .no (.c (Mv len es out)) ET:=by
 simp only[Ai]at hz1
 obtain⟨hz1,hzl,hes,hlim⟩:=hz1
 exact So ht hz hz1 hzl hes hlim hb
structure Xt(c:EW)(w':World):Prop where
 os:w'.os=c.w.os
 tape:w'.tape=c.w.tape
 out:w'.output=c.w.output
 size:c.w.heap.size≤w'.heap.size
 heap: ∀ k,k<c.w.heap.size→w'.heap[k]? =c.w.heap[k]?
theorem Xt.tr{c:EW}{w':World}(h:Xt c w')(hwf: ∀ k,c.M k→k<c.w.heap.size)(ob:Bs):Tr c ob false ⟨w',c.M⟩ ob:=
 ⟨h.os,h.tape,h.out,h.size,fun k hk _=>h.heap k hk,fun _ _=>⟨id,.inl⟩,.inl rfl,fun k hk=>B4 (hwf k hk) h.size⟩
theorem Xt.le{c:EW}{w':World}(h:Xt c w'):Le c ⟨w',c.M⟩:=⟨h.os,h.tape,h.out,h.size,fun k hk hm=>⟨h.heap k hk,hm⟩⟩
def V9(P:Program)(f:Nat):Prop:= ∃ fn,P.funcs[f]? =some fn∧(fn.name== "runtime.NumGoroutine")=false∧fn.body.isNone=false
def Ct(P:Program)(f:Nat)(ps:List SP)(R:SP):Prop:=
 V9 P f∧ ∀ (vs:List Value) (c:EW),(∀ k,c.M k→k<c.w.heap.size)→FG c∧HL ps vs c→Calls P f vs.toArray c.w (fun e w'=> ∃ v,e= .returned v∧Xt c w'∧R.H v ⟨w',c.M⟩)
theorem EF{f:Nat}(h:V9 P f)(args:Array Value)(w:World):(callFunc f args).run P w= .ok (.enter f args) w:=by
 obtain⟨fn,h1,h2,h3⟩:=h
 have h2': ¬fn.name= "runtime.NumGoroutine" :=by simpa using h2
 have h3': ¬fn.body=none:=fun e=>by rw[e]at h3;cases h3
 simp[callFunc,program,Sem.run,h1,h2',h3']
def Sf(Γ:D2)(δ:DK)(ρ:DU):List Operand→List SP→Prop
 |[],[]=>True
 |x::xs,p::ps=>Lk Γ δ ρ x p∧Sf Γ δ ρ xs ps
 |_,_=>False
theorem Sf.val{a:Act}{c:EW}: ∀ {xs:List Operand} {ps:List SP},Sf Γ δ ρ xs ps→(∀ x q,x∈xs→Lk Γ δ ρ x q→q.H (a.eval x) c)→HL ps (xs.map a.eval) c
 |[],[],_,_=>trivial
 |x::xs,p::ps,h,hr=>⟨hr x p (by simp) h.1,Sf.val h.2 fun x' q hx'=>hr x' q (by simp[hx'])⟩
 |[],_::_,h,_=>h.elim
 |_::_,[],h,_=>h.elim
theorem zP{f:Nat}{xs:List Operand}{ps:List SP}{R:SP}{ats:Array TypeId}(hf:Ct P f ps R)(hx:Sf Γ δ ρ xs ps):
  OpOK P n ops Γ ρ δ τ ⟨some d,.call ⟨.value (.func f),xs.toArray,ats⟩,ty,pos,af,none⟩ .no (.c R) ET:=by
 intro a c ob hs hwf hfa hr hres hno hown
 have hob:=hno rfl
 subst hob
 have hv:=hx.val (a:=a) (c:=c) fun x q hx' hq=>Lk.val (o:=⟨some d,.call ⟨.value (.func f),xs.toArray,ats⟩,ty,pos,af,none⟩) hr hfa (by simp[Op.operands,Call.operands,hx']) hq
 simp only[Region.wanted,if_true]
 unfold GP
 have hex:(execOp a.eval ⟨some d,.call ⟨.value (.func f),xs.toArray,ats⟩,ty,pos,af,none⟩).run P c.w= .ok (.enter f (xs.map a.eval).toArray) c.w:=by
  have h1:=EF hf.1 (xs.map a.eval).toArray c.w
  simp[execOp,resolve,Deferred.ofValue,Act.eval,invoke,h1]
 rw[hex]
 refine(hf.2 _ c hwf ⟨hfa.2,hv⟩).mono fun e w' ⟨v,he,hxt,hR⟩=>⟨v,he,⟨w',c.M⟩,Ix,rfl,hxt.tr hwf Ix,hR,fun h=>(by cases h)⟩
def yj(C:Int→Int→Prop)(g:Int→Int→SP):SP:=⟨fun v c=> ∃ fid capt,v= .func (.func fid) #[] capt∧V9 P fid∧ ∀ c',Le c c'→(∀ k,c'.M k→k<c'.w.heap.size)→ ∀ i j,C i j→Calls P fid (#[.int .i64 i,.int .i64 j]++capt) c'.w (fun e w'=> ∃ v,e= .returned v∧Xt c' w'∧(g i j).H v ⟨w',c'.M⟩),by
 rintro v c c' hle ⟨fid,capt,h1,h2,h3⟩
 exact⟨fid,capt,h1,h2,fun c'' h=>h3 c'' (hle.trans h)⟩⟩
theorem lr{x y z:Operand}{C:Int→Int→Prop}{g:Int→Int→SP}{i j:Int}{ats:Array TypeId}(hx:Lk Γ δ ρ x (yj (P:=P) C g))(hy:Lk Γ δ ρ y (I6 i))(hz:Lk Γ δ ρ z (I6 j))(hC:C i j):
  OpOK P n ops Γ ρ δ τ ⟨some d,.call ⟨.value x,#[y,z],ats⟩,ty,pos,af,none⟩ .no (.c (g i j)) ET:=by
 intro a c ob hs hwf hfa hr hres hno hown
 have hob:=hno rfl
 subst hob
 have hrd:=fun x' q hx' hq=>Lk.val (p:=q) (o:=⟨some d,.call ⟨.value x,#[y,z],ats⟩,ty,pos,af,none⟩) hr hfa (x:=x') hx' hq
 obtain⟨fid,capt,h1,h2,h3⟩:=hrd x _ (by simp[Op.operands,Call.operands]) hx
 have h4:=(hrd y _ (by simp[Op.operands,Call.operands]) hy).1
 have h5:=(hrd z _ (by simp[Op.operands,Call.operands]) hz).1
 simp only[Region.wanted,if_true]
 unfold GP
 have hex:(execOp a.eval ⟨some d,.call ⟨.value x,#[y,z],ats⟩,ty,pos,af,none⟩).run P c.w= .ok (.enter fid (#[.int .i64 i,.int .i64 j]++capt)) c.w:=by
  have h6:=EF h2 (#[.int .i64 i,.int .i64 j]++capt) c.w
  simp[execOp,resolve,Deferred.ofValue,h1,h4,h5,invoke,h6]
 rw[hex]
 refine(h3 c (Le.refl c) hwf i j hC).mono fun e w' ⟨v,he,hxt,hR⟩=>⟨v,he,⟨w',c.M⟩,Ix,rfl,hxt.tr hwf Ix,hR,fun h=>(by cases h)⟩
theorem PB{fid:Nat}{xs:List Operand}{ps:List SP}{C:Int→Int→Prop}{g:Int→Int→SP}(hf: ∀ i j,C i j→Ct P fid (I6 i::I6 j::ps) (g i j))(hx:Sf Γ δ ρ xs ps)(hH:V9 P fid):
  OpOK P n ops Γ ρ δ τ ⟨some d,.makeFunc (.func fid) #[] xs.toArray,ty,pos,af,none⟩ .no (.c (yj (P:=P) C g)) ET:=
 DE fun a c hfa hr=>by
  have hv:=hx.val (a:=a) (c:=c) fun x q hx' hq=>hr x q (by simpa[Op.operands]using hx') hq
  refine⟨.func (.func fid) #[] (xs.map a.eval).toArray,by simp[execOp,Instr.makeFunc],fid,_,rfl,hH,fun c' hle hwf i j hC=>?_⟩
  have:=(hf i j hC).2 (.int .i64 i:: .int .i64 j::xs.map a.eval) c' hwf ⟨hfa.2.le hle,⟨rfl,rfl⟩,⟨rfl,rfl⟩,hv.st hle⟩
  simpa using this
def Ya(P:Program)(f:Nat)(g:Array Value→Sem Value):Prop:= ∃ fn,P.funcs[f]? =some fn∧(fn.name== "runtime.NumGoroutine")=false∧fn.body.isNone=true∧(Extern.findNext fn).isNone=true∧Extern.find fn=some g
theorem cj{f:Nat}{g:Array Value→Sem Value}(h:Ya P f g)(args:Array Value)(w:World){v:Value}{w':World}(hg:(g args).run P w= .ok v w'):(callFunc f args).run P w= .ok (.value v) w':=by
 obtain⟨fn,h1,h2,h3,h4,h5⟩:=h
 have h4':Extern.findNext fn=none:=by simpa using h4
 have h2': ¬fn.name= "runtime.NumGoroutine" :=by simpa using h2
 have h3':fn.body=none:=by simpa using h3
 simp[callFunc,program,mark,Sem.run,h1,h2',h3',h4',h5,hg]
theorem Uq{f:Nat}{g:Array Value→Sem Value}{x:Operand}{p q:SP}{ats:Array TypeId}(hf:Ya P f g)(hx:Lk Γ δ ρ x p)(h: ∀ (v:Value) (c:EW),p.H v c→ ∃ u m,(g #[v]).run P c.w= .ok u {c.w with drawn:=m}∧ ∀ c',q.H u c'):
  OpOK P n ops Γ ρ δ τ ⟨some d,.call ⟨.value (.func f),#[x],ats⟩,ty,pos,af,none⟩ .no (.c q) ET:=
 Up fun a c _ hr=>by
  obtain⟨u,m,h1,h2⟩:=h _ c (hr x _ (by simp[Op.operands,Call.operands]) hx)
  refine⟨u,m,?_,h2⟩
  have h3:=cj hf #[a.eval x] c.w h1
  have h4:a.eval (.func f)= .func (.func f) #[] #[]:=rfl
  simp[execOp,resolve,Deferred.ofValue,h4,invoke,h3]
theorem EJ {x : Operand} {s T : Nat} {base : Value} {off : Nat} (k : Nat) {cells : List SP} {U : Nat} (hx : Lk Γ δ ρ x (DW base off)) (hy : DA δ ρ s = some (MD s)) (hT : J5 P T = some 1) (hk : nth τ k = some (.c (Dh base cells U))) (hl : Nat.blt off cells.length = true) :
  OpOK P n ops Γ ρ δ τ ⟨none, .store T x (.tmp s), ty, pos, af, none⟩ (.wr k) (.c Ge) (.d [s] (fun f => Dh base (cells.set off (CW (f s))) U) (fun f g h => by rw [h s (AE.2 rfl)])) := by
 intro a c ob hs hwf hf hr hres hno hown
 have hvs := hr s (B3 _ (BM.2 ⟨.tmp s, by simp [Op.operands], rfl⟩)) _ hy
 -- the value under its own name
 have hL : Lk Γ ((s, .c (CW (vl a s))) :: δ) ρ (.tmp s) (CW (vl a s)) := ⟨.c (CW (vl a s)), by simp [DA], fun _ _ _ _ h => h⟩
 have hxL : Lk Γ ((s, .c (CW (vl a s))) :: δ) ρ x (DW base off) := by
  cases x with
  | tmp t =>
   by_cases ht : s = t
   ·subst ht
    obtain ⟨e, he, hh⟩ := hx
    exact ⟨.c (CW (vl a s)), by simp [DA], fun f v c' hf' hv => by
     rw [hy] at he
     cases he
     exact hh (fun _ => v) v c' hf' ⟨rfl, hv.1 ▸ hv.2⟩⟩
   obtain ⟨e, he, hh⟩ := hx
   exact ⟨e, by simp [DA, FO ht, he], hh⟩
  | const u => exact hx
  | global g => exact hx
  | func f => exact hx
 have hstore := Kz (P := P) (n := n) (ops := ops) (Γ := Γ) (ρ := ρ) (δ := (s, .c (CW (vl a s))) :: δ) (τ := τ) (ty := ty) (pos := pos) (af := af) (x := x) (y := .tmp s) (T := T) k hxL hL D7 hT hk (Oe (HE hl)) (Ru (by simp))
 have := hstore a c ob hs hwf hf (fun t ht q hq => by
  by_cases hts : s = t
  ·subst hts
   simp only [DA, Nat.beq_refl, cond_true, Ah] at hq
   subst hq
   exact ⟨rfl, hvs.2⟩
  simp only [DA, FO hts, cond_false] at hq
  exact hr t ht q hq) hres hno hown
 simp only [Region.wanted, if_true] at this ⊢
 exact this
end ops
def IX:Nat→List SP→DU
 |_,[]=>[]
 |i,p::ps=>(i,p)::IX (i+1) ps
theorem If: ∀ {ps:List SP} {k t:Nat} {p:SP},(IX k ps).get t=some p→k≤t∧nth ps (t-k)=some p
 |[],k,t,p,h=>by simp[IX,DU.get]at h
 |q::ps,k,t,p,h=>by
  simp only[IX,DU.get]at h
  by_cases hk:k=t
  ·subst hk
   simp at h
   subst h
   exact⟨A5 _,by simp[nth]⟩
  rw[FO hk]at h
  obtain⟨h1,h2⟩:=If (k:=k+1) h
  refine⟨by omega,?_⟩
  have e:t-k=(t-(k+1))+1:=by omega
  rw[e]
  exact h2
def Yj(c0:EW)(R:SP)(e:Ending)(w':World):Prop:= ∃ v,e= .returned v∧Xt c0 w'∧R.H v ⟨w',c0.M⟩
theorem Ct.of{P:Program}{f:Nat}{fn:Func}{k:Code}{ps:List SP}{R:SP}(hf:P.funcs[f]? =some fn)(hb:fn.body=some k)(hn:(fn.name== "runtime.NumGoroutine")=false)(hl:Nat.ble ps.length fn.ntmps=true)
  (h: ∀ c0:EW,J ⟨P,fn.ntmps,c0,fun _=>False,[]⟩ [] (IX 0 ps) [] k (bodyPost P fn (Yj c0 R))):Ct P f ps R:=by
 refine⟨⟨fn,hf,hn,by rw[hb];rfl⟩,fun vs c hwf ⟨hg,hv⟩=>?_⟩
 have hl':ps.length≤fn.ntmps:=A8 hl
 have hlen:=hv.len
 refine calls_of_wp hf hb (h c _ c ⟨?_,rfl,⟨fun v p hm=>(by cases hm),hg⟩,fun t p hp=>?_,fun _=>Ix,?_,fun k r hr=>(by simp[nth]at hr)⟩)
 ·simp;omega
 ·obtain⟨_,hp'⟩:=If hp
  rw[Nat.sub_zero]at hp'
  obtain⟨v,h1,h2⟩:=hv.nth t p hp'
  have ht:=(AU.1 h1).1
  have:vl {tmps:=vs.toArray++Array.replicate (fn.ntmps-vs.toArray.size) undef,defers:=[]} t=v:=by
   unfold vl
   simp only[Cd]
   rw[CE (by simpa using ht)]
   simp[h1]
  rw[this]
  exact h2
 exact⟨rfl,rfl,rfl,A5 _,fun _ _ _=>rfl,fun _ _=>⟨id,.inl⟩,hwf,fun k b hb=>(by cases hb),fun _ _ _ h=>(by cases h),hwf⟩
section ret
variable {X:Cx} {Γ:D2} {ρ:DU} {σ:List Res}
inductive RV(P:Program)(Γ:D2)(ρ:DU)(σ:List Res):ResultVar→SP→Prop where
 |tmp {t:Nat} {p:SP} (h:Lk Γ [] ρ (.tmp t) p):RV P Γ ρ σ (.tmp t) p
 |sc {t T:Nat} {base:Value} {off:Nat} (k:Nat) {cells:List SP} {U:Nat} {p:SP} (h:Lk Γ [] ρ (.tmp t) (DW base off)) (hT:KF P T=true) (hk:nth σ k=some (Dh base cells U)) (hp:nth cells off=some p):RV P Γ ρ σ (.cell t T) p
 |ag {t T m:Nat} {base:Value} {off:Nat} (k:Nat) {cells cells':List SP} {U:Nat} (h:Lk Γ [] ρ (.tmp t) (DW base off)) (hT:MW P T=some m) (hk:nth σ k=some (Dh base cells U)) (hs:I3 off m cells=some cells') (hm:Nat.blt 0 m=true):RV P Γ ρ σ (.cell t T) (DL cells')
def Ti(P:Program)(tmps:Array Value):ResultVar→Sem Value
 | .tmp t=>pure (tmps.getD t undef)
 | .cell a t=>do loadVar t (←asAddr (tmps.getD a undef))
theorem RV.run{P:Program}{n:Nat}{c0:EW}{E:Nat→Prop}{rv:ResultVar}{p:SP}(h:RV P Γ ρ σ rv p){a:Act}{c:EW}(hs:St ⟨P,n,c0,E,[]⟩ Γ ρ σ a c): ∃ v,(Ti P a.tmps rv).run P c.w= .ok v c.w∧p.H v c:=by
 obtain⟨obs,hown,hres⟩:=hs.own
 cases h with
 |tmp h=>exact⟨_,rfl,h.holds hs.facts hs.env⟩
 |sc k h hT hk hp=>
  obtain⟨b,hb,hv⟩:=h.holds hs.facts hs.env
  obtain⟨b',cur,h1,h2,h3,h4,h5⟩:=hres k _ hk
  have:b=b':=Hd.inj hb (.inl h1)
  subst this
  obtain⟨u,hu,_,hpu⟩:=h5 _ _ hp
  rw[Aq]at hu
  have hl:=LX (P:=P) hT h3 hu
  have hv':a.tmps.getD _ undef=_:=hv
  refine⟨u,?_,hpu⟩
  simp only[Ti,hv',Sem.run_bind]
  simpa[Instr.loadAt,Instr.sureAddr,asAddr]using hl
 |ag k h hT hk hs' hm=>
  obtain⟨b,hb,hv⟩:=h.holds hs.facts hs.env
  obtain⟨b',cur,h1,h2,h3,h4,h5⟩:=hres k _ hk
  have:b=b':=Hd.inj hb (.inl h1)
  subst this
  obtain⟨g1,g2,_⟩:=Gz hs'
  have hroom:=h5.room (HE hm) g2
  rw[Aq]at hroom
  have hl:=LW (P:=P) hT h3 hroom
  have hv':a.tmps.getD _ undef=_:=hv
  refine⟨_,?_,_,rfl,?_,UX (off:=0) hs' h5 (by omega)⟩
  ·simp only[Ti,hv',Sem.run_bind]
   simpa[Instr.loadAt,Instr.sureAddr,asAddr]using hl
  simp;omega
theorem IQ{P:Program}{fn:Func}{tmps:Array Value}{w:World}{vs:List Value}(h:(fn.results.toList.mapM (Ti P tmps)).run P w= .ok vs w):
  (results fn tmps).run P w= .ok (if h:vs.toArray.size=1 then vs.toArray[0]else .tuple vs.toArray) w:=by
 have e:results fn tmps=(fn.results.mapM (Ti P tmps))>>=fun vs=>pure (if h:vs.size=1 then vs[0]else .tuple vs):=by
  unfold results
  congr 1
 rw[e,Array.mapM_eq_mapM_toList]
 simp only[Sem.run_bind,Sem.run_map,h,Result.andThen_ok,Sem.run_pure]
inductive ox(P:Program)(Γ:D2)(ρ:DU)(σ:List Res):List ResultVar→List SP→Prop where
 |nil:ox P Γ ρ σ [] []
 |cons {rv:ResultVar} {p:SP} {rvs:List ResultVar} {ps:List SP} (h:RV P Γ ρ σ rv p) (hr:ox P Γ ρ σ rvs ps):ox P Γ ρ σ (rv::rvs) (p::ps)
theorem ox.run{P:Program}{n:Nat}{c0:EW}{E:Nat→Prop}{rvs:List ResultVar}{ps:List SP}(h:ox P Γ ρ σ rvs ps){a:Act}{c:EW}(hs:St ⟨P,n,c0,E,[]⟩ Γ ρ σ a c): ∃ vs,(rvs.mapM (Ti P a.tmps)).run P c.w= .ok vs c.w∧HL ps vs c:=by
 induction h with
 |nil=>exact⟨[],rfl,trivial⟩
 |cons h hr ih=>
  obtain⟨v,h1,h2⟩:=h.run hs
  obtain⟨vs,h3,h4⟩:=ih
  exact⟨v::vs,by rw[List.mapM_cons];simp only[Sem.run_bind,h1,Result.andThen_ok,h3,Sem.run_pure],h2,h4⟩
def UH:List SP→SP
 |[p]=>p
 |ps=>EP ps
theorem St.xt{n:Nat}{P:Program}{c0:EW}{a:Act}{c:EW}(hs:St ⟨P,n,c0,fun _=>False,[]⟩ Γ ρ σ a c):Xt c0 c.w∧Le c ⟨c.w,c0.M⟩:=by
 obtain⟨obs,hown,_⟩:=hs.own
 exact⟨⟨hown.os,hown.tape,hown.out,hown.size,fun k hk=>hown.heap k hk (fun h=>h)⟩,rfl,rfl,rfl,A5 _,fun k hk hm=>⟨rfl,fun h0=>hm (((hown.mem k (hown.wf0 k h0)).2 h0).resolve_right id)⟩⟩
theorem zQ{P:Program}{fn:Func}{n:Nat}{c0:EW}{R:SP}{ps:List SP}(hr:ox P Γ ρ σ fn.results.toList ps)(hR: ∀ v c,FH Γ c→(UH ps).H v c→R.H v c):
  JN ⟨P,n,c0,fun _=>False,[]⟩ Γ ρ σ (bodyPost P fn (Yj c0 R) .ret):=fun a c hs=>by
 obtain⟨vs,h1,h2⟩:=hr.run hs
 obtain⟨hx,hle⟩:=hs.xt
 refine⟨hs.defers,_,IQ h1,_,rfl,hx,hR _ _ (hs.facts.le hle) ?_⟩
 have h3:=h2.st hle
 match ps,vs,h3 with
 |[],[],h3=>exact⟨[],rfl,trivial⟩
 |[p],[v],h3=>exact h3.1
 |p::q::ps,v::u::vs,h3=>
  refine⟨v::u::vs,?_,h3⟩
  rw[dif_neg (by simp)]
 |[],_::_,h3=>exact h3.elim
 |_::_,[],h3=>exact h3.elim
 |[_],_::_::_,h3=>exact h3.2.elim
 |_::_::_,[_],h3=>exact h3.2.elim
end ret
section calls2
variable {P:Program} {n:Nat} {ops:Array Oper} {Γ:D2} {ρ:DU} {δ:DK} {τ:List VR}
variable {d:Nat} {ty:TypeId} {pos:String} {af:Array Edge}
structure Xm(c:EW)(ob:Bs)(w':World):Prop where
 os:w'.os=c.w.os
 tape:w'.tape=c.w.tape
 out:w'.output=c.w.output
 size:c.w.heap.size≤w'.heap.size
 heap: ∀ k,k<c.w.heap.size→ ¬ob k→w'.heap[k]? =c.w.heap[k]?
def Y3(r r':Res):Prop:= ∀ c c' ob ob',r.H c ob→r'.H c' ob'→ob=ob'
def En(P:Program)(f:Nat)(ps:List SP)(r:Res)(R:SP)(r':Res):Prop:=
 V9 P f∧ ∀ (vs:List Value) (c:EW) (ob:Bs),(∀ k,c.M k→k<c.w.heap.size)→FG c∧HL ps vs c→r.H c ob→(∀ b,ob b→c.M b)→Calls P f vs.toArray c.w (fun e w'=> ∃ v,e= .returned v∧Xm c ob w'∧R.H v ⟨w',c.M⟩∧r'.H ⟨w',c.M⟩ ob)
theorem CV{f:Nat}{xs:List Operand}{ps:List SP}{R:SP}{r r':Res}{ats:Array TypeId}(k:Nat)(hf:En P f ps r R r')(hx:Sf Γ δ ρ xs ps)(hk:nth τ k=some (.c r)):
  OpOK P n ops Γ ρ δ τ ⟨some d,.call ⟨.value (.func f),xs.toArray,ats⟩,ty,pos,af,none⟩ (.wr k) (.c R) (.c r'):=by
 intro a c ob hs hwf hfa hr hres hno hown
 obtain⟨r0,hr0,hh⟩:=hres k rfl
 rw[hk]at hr0
 cases hr0
 have hv:=hx.val (a:=a) (c:=c) fun x q hx' hq=>Lk.val (o:=⟨some d,.call ⟨.value (.func f),xs.toArray,ats⟩,ty,pos,af,none⟩) hr hfa (by simp[Op.operands,Call.operands,hx']) hq
 simp only[Region.wanted,if_true]
 unfold GP
 have hex:(execOp a.eval ⟨some d,.call ⟨.value (.func f),xs.toArray,ats⟩,ty,pos,af,none⟩).run P c.w= .ok (.enter f (xs.map a.eval).toArray) c.w:=by
  have h1:=EF hf.1 (xs.map a.eval).toArray c.w
  simp[execOp,resolve,Deferred.ofValue,Act.eval,invoke,h1]
 rw[hex]
 refine(hf.2 _ c ob hwf ⟨hfa.2,hv⟩ hh fun b hb=>(hown b hb).1).mono fun e w' ⟨v,he,hxm,hR,hr'⟩=>⟨v,he,⟨w',c.M⟩,ob,rfl,?_,hR,fun _=>hr'⟩
 exact⟨hxm.os,hxm.tape,hxm.out,hxm.size,fun j hj hne=>hxm.heap j hj (hne rfl),fun _ _=>⟨id,.inl⟩,.inl rfl,fun j hj=>B4 (hwf j hj) hxm.size⟩
def ig(c0:EW)(ob:Bs)(R:SP)(r':Res)(e:Ending)(w':World):Prop:= ∃ v,e= .returned v∧Xm c0 ob w'∧R.H v ⟨w',c0.M⟩∧r'.H ⟨w',c0.M⟩ ob
theorem En.of{f:Nat}{fn:Func}{k:Code}{ps:List SP}{R:SP}{r r':Res}(hf:P.funcs[f]? =some fn)(hb:fn.body=some k)(hn:(fn.name== "runtime.NumGoroutine")=false)(hl:Nat.ble ps.length fn.ntmps=true)(hfix:Y3 r r')
  (h: ∀ (c0:EW) (ob:Bs),r.H c0 ob→J ⟨P,fn.ntmps,c0,fun b=>ob b,[]⟩ [] (IX 0 ps) [r] k (bodyPost P fn (ig c0 ob R r'))):En P f ps r R r':=by
 refine⟨⟨fn,hf,hn,by rw[hb];rfl⟩,fun vs c ob hwf ⟨hg,hv⟩ hr hM=>?_⟩
 have hl':ps.length≤fn.ntmps:=A8 hl
 have hlen:=hv.len
 refine calls_of_wp hf hb (h c ob hr _ c ⟨?_,rfl,⟨fun v p hm=>(by cases hm),hg⟩,fun t p hp=>?_,fun k=>if k=0 then ob else Ix,?_,fun k r0 hr0=>?_⟩)
 ·simp;omega
 ·obtain⟨_,hp'⟩:=If hp
  rw[Nat.sub_zero]at hp'
  obtain⟨v,h1,h2⟩:=hv.nth t p hp'
  have ht:=(AU.1 h1).1
  have:vl {tmps:=vs.toArray++Array.replicate (fn.ntmps-vs.toArray.size) undef,defers:=[]} t=v:=by
   unfold vl
   simp only[Cd]
   rw[CE (by simpa using ht)]
   simp[h1]
  rw[this]
  exact h2
 ·refine⟨rfl,rfl,rfl,A5 _,fun _ _ _=>rfl,fun _ _=>⟨id,.inl⟩,hwf,fun k b hb=>?_,fun i j b hi hj=>?_,hwf⟩
  ·by_cases hk:k=0
   ·rw[if_pos hk]at hb;exact⟨hM b hb,.inr hb⟩
   rw[if_neg hk]at hb;cases hb
  by_cases hi0:i=0
  ·by_cases hj0:j=0
   ·rw[hi0,hj0]
   rw[if_neg hj0]at hj;cases hj
  rw[if_neg hi0]at hi;cases hi
 cases k with
 |zero=>simp only[nth,Ah]at hr0;subst hr0;simpa using hr
 |succ k=>simp[nth]at hr0
theorem Db{σ:List Res}{fn:Func}{n:Nat}{c0:EW}{ob:Bs}{R:SP}{r r':Res}{ps:List SP}(j:Nat)(hr0:r.H c0 ob)(hfix:Y3 r r')(hj:nth σ j=some r')(hr:ox P Γ ρ σ fn.results.toList ps)(hR: ∀ v c,FH Γ c→(UH ps).H v c→R.H v c):
  JN ⟨P,n,c0,fun b=>ob b,[]⟩ Γ ρ σ (bodyPost P fn (ig c0 ob R r') .ret):=fun a c hs=>by
 obtain⟨vs,h1,h2⟩:=hr.run hs
 obtain⟨obs,hown,hres⟩:=hs.own
 have hx:Xm c0 ob c.w:=⟨hown.os,hown.tape,hown.out,hown.size,fun k hk hne=>hown.heap k hk hne⟩
 have hrj:=hres j r' hj
 have hob:obs j=ob:=(hfix _ _ _ _ hr0 hrj).symm
 have hle:Le c ⟨c.w,c0.M⟩:=⟨rfl,rfl,rfl,A5 _,fun k hk hm=>⟨rfl,fun h0=>hm (((hown.mem k (hown.wf0 k h0)).2 h0).elim id fun e=>(hown.has j k (by rw[hob];exact e)).1)⟩⟩
 rw[hob]at hrj
 have hrj':r'.H ⟨c.w,c0.M⟩ ob:=r'.fr _ _ _ hle (fun _ _=>rfl) hrj
 refine⟨hs.defers,_,IQ h1,_,rfl,hx,hR _ _ (hs.facts.le hle) ?_,hrj'⟩
 have h3:=h2.st hle
 match ps,vs,h3 with
 |[],[],h3=>exact⟨[],rfl,trivial⟩
 |[p],[v],h3=>exact h3.1
 |p::q::ps,v::u::vs,h3=>
  refine⟨v::u::vs,?_,h3⟩
  rw[dif_neg (by simp)]
 |[],_::_,h3=>exact h3.elim
 |_::_,[],h3=>exact h3.elim
 |[_],_::_::_,h3=>exact h3.2.elim
 |_::_::_,[_],h3=>exact h3.2.elim
theorem U7{sv:Value}{n k:Nat}{cells cells':List SP}{T T':TypeId}:Y3 (Za sv n k cells T) (Za sv n k cells' T'):=by
 rintro c c' ob ob' ⟨_,h⟩ ⟨_,h'⟩
 rcases h with ⟨h1,h2,h3⟩|⟨b,cap,cur,h1,h2,_⟩<;>rcases h' with ⟨g1,g2,g3⟩|⟨b',cap',cur',g1,g2,_⟩
 ·rw[h3,g3]
 ·rw[h1]at g1;cases g1
 ·rw[h1]at g1;cases g1
 rw[h1]at g1;cases g1;rw[h2,g2]
theorem CU{base:Value}{cells cells':List SP}{T T':TypeId}:Y3 (Dh base cells T) (Dh base cells' T'):=by
 rintro c c' ob ob' ⟨b,cur,h1,h2,_⟩ ⟨b',cur',g1,g2,_⟩
 rw[h1]at g1;cases g1;rw[h2,g2]
def OH(P:Program)(f:Nat)(ps:List SP)(pr:Value→Value)(R:Value→SP)(r:Value→Res):Prop:=
 V9 P f∧ ∀ (vs:List Value) (c:EW),(∀ k,c.M k→k<c.w.heap.size)→FG c∧HL ps vs c→Calls P f vs.toArray c.w (fun e w'=> ∃ v ob,e= .returned v∧Xt c w'∧(∀ b,ob b→c.w.heap.size≤b∧b<w'.heap.size)∧(R (pr v)).H v ⟨w',fun k=>c.M k∨ob k⟩∧(r (pr v)).H ⟨w',fun k=>c.M k∨ob k⟩ ob)
theorem HO{f:Nat}{xs:List Operand}{ps:List SP}{pr:Value→Value}{R:Value→SP}{r:Value→Res}{ats:Array TypeId}(k:Nat)(hf:OH P f ps pr R r)(hx:Sf Γ δ ρ xs ps)(hk:nth τ k=some (.c emp)):
  OpOK P n ops Γ ρ δ τ ⟨some d,.call ⟨.value (.func f),xs.toArray,ats⟩,ty,pos,af,none⟩ (.wr k) (.d [d] (fun g=>R (pr (g d))) (fun g g' h=>by rw[h d (AE.2 rfl)])) (.d [d] (fun g=>r (pr (g d))) (fun g g' h=>by rw[h d (AE.2 rfl)])):=by
 intro a c ob hs hwf hfa hr hres hno hown
 obtain⟨r0,hr0,hh⟩:=hres k rfl
 rw[hk]at hr0
 cases hr0
 have hob:ob=Ix:=hh
 subst hob
 have hv:=hx.val (a:=a) (c:=c) fun x q hx' hq=>Lk.val (o:=⟨some d,.call ⟨.value (.func f),xs.toArray,ats⟩,ty,pos,af,none⟩) hr hfa (by simp[Op.operands,Call.operands,hx']) hq
 simp only[Region.wanted,if_true]
 unfold GP
 have hex:(execOp a.eval ⟨some d,.call ⟨.value (.func f),xs.toArray,ats⟩,ty,pos,af,none⟩).run P c.w= .ok (.enter f (xs.map a.eval).toArray) c.w:=by
  have h1:=EF hf.1 (xs.map a.eval).toArray c.w
  simp[execOp,resolve,Deferred.ofValue,Act.eval,invoke,h1]
 rw[hex]
 refine(hf.2 _ c hwf ⟨hfa.2,hv⟩).mono fun e w' ⟨v,ob,he,hxt,hlt,hR,hr'⟩=>⟨v,he,⟨w',fun k=>c.M k∨ob k⟩,ob,rfl,?_,?_,fun _=>?_⟩
 ·refine⟨hxt.os,hxt.tape,hxt.out,hxt.size,fun j hj _=>hxt.heap j hj,fun j hj=>⟨fun h=>h.resolve_right (fun e=>by have:=(hlt j e).1;omega),fun h=> .inl (.inl h)⟩,?_,fun j hj=>?_⟩
  ·exact .inr ⟨rfl,fun b hb=> .inr ⟨(hlt b hb).1,.inr hb⟩⟩
  rcases hj with hj|hj
  ·exact B4 (hwf j hj) hxt.size
  exact(hlt j hj).2
 ·simp only[VE.at,FK];exact hR
 simp only[VR.at,FK];exact hr'
def uk(c0:EW)(pr:Value→Value)(R:Value→SP)(r:Value→Res)(e:Ending)(w':World):Prop:= ∃ v ob,e= .returned v∧Xt c0 w'∧(∀ b,ob b→c0.w.heap.size≤b∧b<w'.heap.size)∧(R (pr v)).H v ⟨w',fun k=>c0.M k∨ob k⟩∧(r (pr v)).H ⟨w',fun k=>c0.M k∨ob k⟩ ob
theorem OH.of{f:Nat}{fn:Func}{k:Code}{ps:List SP}{pr:Value→Value}{R:Value→SP}{r:Value→Res}(hf:P.funcs[f]? =some fn)(hb:fn.body=some k)(hn:(fn.name== "runtime.NumGoroutine")=false)(hl:Nat.ble ps.length fn.ntmps=true)
  (h: ∀ c0:EW,J ⟨P,fn.ntmps,c0,fun _=>False,[]⟩ [] (IX 0 ps) [] k (bodyPost P fn (uk c0 pr R r))):OH P f ps pr R r:=by
 refine⟨⟨fn,hf,hn,by rw[hb];rfl⟩,fun vs c hwf ⟨hg,hv⟩=>?_⟩
 have hl':ps.length≤fn.ntmps:=A8 hl
 have hlen:=hv.len
 refine calls_of_wp hf hb (h c _ c ⟨?_,rfl,⟨fun v p hm=>(by cases hm),hg⟩,fun t p hp=>?_,fun _=>Ix,?_,fun k r hr=>(by simp[nth]at hr)⟩)
 ·simp;omega
 ·obtain⟨_,hp'⟩:=If hp
  rw[Nat.sub_zero]at hp'
  obtain⟨v,h1,h2⟩:=hv.nth t p hp'
  have ht:=(AU.1 h1).1
  have:vl {tmps:=vs.toArray++Array.replicate (fn.ntmps-vs.toArray.size) undef,defers:=[]} t=v:=by
   unfold vl
   simp only[Cd]
   rw[CE (by simpa using ht)]
   simp[h1]
  rw[this]
  exact h2
 exact⟨rfl,rfl,rfl,A5 _,fun _ _ _=>rfl,fun _ _=>⟨id,.inl⟩,hwf,fun k b hb=>(by cases hb),fun _ _ _ h=>(by cases h),hwf⟩
theorem HD{σ:List Res}{fn:Func}{n:Nat}{c0:EW}{pr:Value→Value}{R:Value→SP}{r:Value→Res}{p:SP}{rv:ResultVar}{u:Value}(j:Nat)(hj:nth σ j=some (r u))(hrv:fn.results.toList=[rv])(hr:RV P Γ ρ σ rv p)(hpr: ∀ v c,p.H v c→pr v=u)(hR: ∀ v c,FH Γ c→p.H v c→(R u).H v c):
  JN ⟨P,n,c0,fun _=>False,[]⟩ Γ ρ σ (bodyPost P fn (uk c0 pr R r) .ret):=fun a c hs=>by
 obtain⟨v,h1,h2⟩:=hr.run hs
 obtain⟨obs,hown,hres⟩:=hs.own
 obtain⟨hx,_⟩:=hs.xt
 have hrj:=hres j _ hj
 have hlow: ∀ b,obs j b→c0.w.heap.size≤b∧b<c.w.heap.size:=fun b hb=>⟨(hown.has j b hb).2.resolve_right (fun h=>h),hown.lt hb⟩
 have hle:Le c ⟨c.w,fun k=>c0.M k∨obs j k⟩:=⟨rfl,rfl,rfl,A5 _,fun k hk hm=>⟨rfl,fun h0=>hm (by
  rcases h0 with h0|h0
  ·exact((hown.mem k (hown.wf0 k h0)).2 h0).resolve_right id
  exact(hown.has j k h0).1)⟩⟩
 have hres1:(results fn a.tmps).run P c.w= .ok v c.w:=by
  have:=IQ (P:=P) (fn:=fn) (tmps:=a.tmps) (w:=c.w) (vs:=[v]) (by rw[hrv];simp only[List.mapM_cons,List.mapM_nil,Sem.run_bind,h1,Result.andThen_ok,Sem.run_pure])
  simpa using this
 have hu:pr v=u:=hpr v c h2
 refine⟨hs.defers,_,hres1,v,obs j,rfl,hx,hlow,?_,?_⟩
 ·rw[hu];exact hR v _ (hs.facts.le hle) (p.st _ _ _ hle h2)
 rw[hu];exact(r u).fr _ _ _ hle (fun _ _=>rfl) hrj
end calls2
def ZY(i:Nat)(v:Value):Value:=match v with| .agg cs=>cs.getD i undef|v=>v
theorem OL{i:Nat}{l:List SP}{u:Value}(hi:nth l i=some (CW u)): ∀ v c,(DL l).H v c→ZY i v=u:=by
 rintro v c ⟨cs,h1,h2,h3⟩
 subst h1
 obtain⟨u',hu,_,h4⟩:=h3 i _ hi
 rw[Aq]at hu
 simp only[ZY,Cd,hu,Cc]
 exact h4.1
theorem zK{Γ:D2}{ρ:DU}{x:Operand}{b:Bool}(h:Lk Γ [] ρ x (CW (.bool b))): ∀ (a:Act) (c:EW),FH Γ c→EH ρ (vl a) c→a.eval x= .bool b:=fun _ _ hf he=>(h.holds hf he).1
theorem zO{z:Int}(h1: -9223372036854775808≤z)(h2:z≤9223372036854775807):IntKind.i64.wrap z=z:=by rw[IntKind.wrap_i64];omega
def I2{α:Type}(mk:α→SP)(xs:List α):SP:=slp (xs.map mk)
def Eh(k:IntKind)(z:Int):SP:=CW (.int k z)
abbrev Dp(xs:List Nat):SP:=I2 Dm xs
abbrev DP(k:IntKind)(xs:List Int):SP:=I2 (Eh k) xs
theorem FP{α:Type}{mk:α→SP}{xs:List α}:F8 (I2 mk xs) [I2 mk xs]:=Fe
theorem DY{k:IntKind}{z:Int}:F8 (Eh k z) [Eh k z]:=D7
def DC{α:Type}(sv:Value)(mk:α→SP)(xs:List α)(T:TypeId):Res:=Za sv xs.length 1 (xs.map mk) T
def EY(r c:Int)(xs:List Nat):SP:=DL [I6 r,I6 c,Dp xs]
theorem cA{α:Type}{mk:α→SP}{c:EW}:(I2 mk []).H (.slice none 0 0) c:=⟨rfl,.inl ⟨rfl,rfl⟩⟩
theorem Dz{α:Type}{sv:Value}{mk:α→SP}{xs:List α}{T:TypeId}:KO (DC sv mk xs T) sv (I2 mk xs):=by
 have:= @aO sv xs.length 1 (xs.map mk) T
 simpa[I2,slp,DC]using this
theorem br{α:Type}{sv:Value}{mk:α→SP}{xs:List α}{T:TypeId}(h0:0<xs.length):uf (DC sv mk xs T) sv (xs.map mk):=bq h0
theorem FA{α:Type}{mk:α→SP}{T:TypeId}: ∀ c ob,emp.H c ob→(DC (.slice none 0 0) mk [] T).H c ob:=fun c ob h=>⟨rfl,.inl ⟨rfl,rfl,h⟩⟩
section ops
variable {P:Program} {n:Nat} {ops:Array Oper} {Γ:D2} {ρ:DU} {δ:DK} {τ:List VR}
variable {d:Nat} {ty:TypeId} {pos:String} {af:Array Edge}
theorem yV{α:Type}{mk:α→SP}{xs:List α}{x:Operand}{t:TypeId}{E es eb:Nat}(ht:Iu P t=some (E,es,eb))(hx:Lk Γ δ ρ x (I2 mk xs)):
  OpOK P n ops Γ ρ δ τ ⟨some d,.call ⟨.builtin .len,#[x],#[t]⟩,ty,pos,af,none⟩ .no (.c (I6 (xs.length:Int))) ET:=by
 have:=Z7 (n:=n) (ops:=ops) (τ:=τ) (d:=d) (ty:=ty) (pos:=pos) (af:=af) ht hx
 rw[Az]at this
 exact this
theorem xv{tx0:Nat}{α:Type}{mk:α→SP}{xs:List α}{t:TypeId}{E es eb:Nat}(ht:Iu P t=some (E,es,eb))(hx:DA δ ρ tx0=some (.c (I2 mk xs))):OpOK P n ops Γ ρ δ τ ⟨some d,.call ⟨.builtin .len,#[(Operand.tmp tx0)],#[t]⟩,ty,pos,af,none⟩ .no (.c (I6 (xs.length:Int))) ET:=by
 exact yV ht (.t hx)
theorem yS{α:Type}{mk:α→SP}{xs:List α}(dv:α){x y:Operand}{T:TypeId}{E eb:Nat}{k:IntKind}{z:Int}(ht:Iu P T=some (E,1,eb))(hx:Lk Γ δ ρ x (I2 mk xs))(hy:Lk Γ δ ρ y (CW (.int k z)))(h0:0≤z)(h1:z<xs.length):
  OpOK P n ops Γ ρ δ τ ⟨some d,.indexAddr T x y,ty,pos,af,none⟩ .no (.c (Gf [mk (xs.getD z.toNat dv)])) ET:=
 lv ht hx hy h0 (by rw[Qd,RE dv (by omega)];rfl)
theorem xx{tx0 ty0:Nat}{α:Type}{mk:α→SP}{xs:List α}(dv:α){T:TypeId}{E eb:Nat}{k:IntKind}{z:Int}(ht:Iu P T=some (E,1,eb))(hx:(DA δ ρ tx0,DA δ ρ ty0)=(some (.c (I2 mk xs)),some (.c (CW (.int k z)))))(h0:0≤z)(h1:z<xs.length):OpOK P n ops Γ ρ δ τ ⟨some d,.indexAddr T (Operand.tmp tx0) (Operand.tmp ty0),ty,pos,af,none⟩ .no (.c (Gf [mk (xs.getD z.toNat dv)])) ET:=by
 simp only[Ai]at hx
 obtain⟨hx,hy⟩:=hx
 exact yS dv ht (.t hx) (.t hy) h0 h1
theorem Ni{α:Type}{mk:α→SP}{xs:List α}{x lo hi:Operand}{T:TypeId}{E eb:Nat}{k1 k2:IntKind}{l h:Int}(ht:Iu P T=some (E,1,eb))(hx:Lk Γ δ ρ x (I2 mk xs))(hlo:Lk Γ δ ρ lo (CW (.int k1 l)))(hhi:Lk Γ δ ρ hi (CW (.int k2 h)))
  (h0:0≤l) (h1:l≤h) (h2:h≤xs.length):
  OpOK P n ops Γ ρ δ τ ⟨some d,.slice T x (some lo) (some hi) none,ty,pos,af,none⟩ .no (.c (I2 mk ((xs.drop l.toNat).take (h.toNat-l.toNat)))) ET:=by
 have hl:((xs.drop l.toNat).take (h.toNat-l.toNat)).length=h.toNat-l.toNat:=by simp;omega
 have:=lC (n:=n) (ops:=ops) (τ:=τ) (d:=d) (ty:=ty) (pos:=pos) (af:=af) (m':=h.toNat-l.toNat) (cells':=((xs.drop l.toNat).take (h.toNat-l.toNat)).map mk) ht hx hlo hhi h0 h1 (by simpa using h2) (by omega) (by rw[Az,hl,Bz]) (fun j p hj=>by
  rw[Qd]at hj⊢
  rw[Bz]
  cases hv:nth ((xs.drop l.toNat).take (h.toNat-l.toNat)) j with
  |none=>rw[hv]at hj;cases hj
  |some u=>
   rw[hv]at hj
   rw[Dq,B9]at hv
   split at hv
   ·rw[AF]at hv
    rw[Dq,hv];exact hj
   cases hv)
 unfold I2 slp
 rw[Az,hl]
 exact this
theorem EC{α:Type}{mk:α→SP}{xs:List α}{v:α}{x y:Operand}{T E eb:Nat}(k:Nat){sv:Value}{zs:List Value}(ht:Iu P T=some (E,1,eb))(hz:HC P E=some zs)(hzl:Nat.beq zs.length 1=true)(hx:Lk Γ δ ρ x (CW sv))(hy:Lk Γ δ ρ y (Mv 1 1 [mk v]))
  (hk:nth τ k=some (.c (DC sv mk xs E))) (h63:xs.length+1≤9223372036854775807) (hb:(xs.length+1)*eb≤140737488355328):
  OpOK P n ops Γ ρ δ τ ⟨some d,.call ⟨.builtin .append,#[x,y],#[T,T]⟩,ty,pos,af,none⟩ (.wr k) (MD d) (.d [d] (fun f=>DC (f d) mk (xs++ [v]) E) (fun f g h=>by rw[h d (AE.2 rfl)])):=by
 have h:=P3 (n:=n) (ops:=ops) (d:=d) (ty:=ty) (pos:=pos) (af:=af) k ht hz hzl rfl hx hy hk rfl h63 hb (all:=(xs++ [v]).map mk) (by simp)
 intro a c ob g1 g2 g3 g4 g5 g6 g7
 have:=h a c ob g1 g2 g3 g4 g5 g6 g7
 have e:xs.length+1=(xs++ [v]).length:=by simp
 simp only[Li,VR.at]at this
 simp only[VR.at,DC]
 rw[←e]
 exact this
theorem HN{α:Type}{mk:α→SP}{xs ys:List α}{x y:Operand}{T E eb:Nat}(k:Nat){sv:Value}{zs:List Value}(ht:Iu P T=some (E,1,eb))(hz:HC P E=some zs)(hzl:Nat.beq zs.length 1=true)(hx:Lk Γ δ ρ x (CW sv))(hy:Lk Γ δ ρ y (I2 mk ys))
  (hk:nth τ k=some (.c (DC sv mk xs E))) (h63:xs.length+ys.length≤9223372036854775807) (hb:(xs.length+ys.length)*eb≤140737488355328):
  OpOK P n ops Γ ρ δ τ ⟨some d,.call ⟨.builtin .append,#[x,y],#[T,T]⟩,ty,pos,af,none⟩ (.wr k) (MD d) (.d [d] (fun f=>DC (f d) mk (xs++ys) E) (fun f g h=>by rw[h d (AE.2 rfl)])):=by
 have h:=P3 (n:=n) (ops:=ops) (d:=d) (ty:=ty) (pos:=pos) (af:=af) (ms:=xs.length+ys.length) k ht hz hzl rfl hx hy hk (by simp) h63 hb (all:=(xs++ys).map mk) (by simp)
 intro a c ob g1 g2 g3 g4 g5 g6 g7
 have:=h a c ob g1 g2 g3 g4 g5 g6 g7
 have e:xs.length+ys.length=(xs++ys).length:=by simp
 simp only[Li,VR.at]at this
 simp only[VR.at,DC]
 rw[←e]
 exact this
theorem DI{α:Type}{mk:α→SP}(v0:α){x y:Operand}{T E eb:Nat}(k:Nat){k1 k2:IntKind}{l h:Int}{zv:Value}(ht:Iu P T=some (E,1,eb))(hz:HC P E=some [zv])(hz1:zv.oneCell'=true)(hmk: ∀ c,(mk v0).H zv c)(hx:Lk Γ δ ρ x (CW (.int k1 l)))(hy:Lk Γ δ ρ y (CW (.int k2 h)))
  (h0:0≤l) (h1:l≤h) (hb:eb*h≤281474976710656) (h63:h≤9223372036854775807) (hk:nth τ k=some (.c emp)):
  OpOK P n ops Γ ρ δ τ ⟨some d,.makeSlice T x y,ty,pos,af,none⟩ (.wr k) (MD d) (.d [d] (fun f=>DC (f d) mk (List.replicate l.toNat v0) E) (fun f g h=>by rw[h d (AE.2 rfl)])):=by
 have hh:=bK (P:=P) (n:=n) (ops:=ops) (Γ:=Γ) (ρ:=ρ) (δ:=δ) (τ:=τ) (d:=d) (ty:=ty) (pos:=pos) (af:=af) (m:=l.toNat) (cells:=List.replicate l.toNat (CW zv)) k ht hz (by simp[hz1]) rfl hx hy h0 h1 hb h63 rfl (by simp) (fun i p hi=>⟨zv,by rw[Nat.mod_one];rfl,by
  rw[Dq]at hi
  have:=Bh hi
  exact(List.eq_of_mem_replicate this).symm⟩) hk
 intro a c ob g1 g2 g3 g4 g5 g6 g7
 have hm:=hh a c ob g1 g2 g3 g4 g5 g6 g7
 simp only[Region.wanted,if_true]at hm⊢
 refine hm.mono ?_
 rintro v w' ⟨c',ob',q1,q2,q3,q4⟩
 refine⟨c',ob',q1,q2,q3,fun hw=>?_⟩
 have q5:=q4 hw
 simp only[Li,VR.at,FK]at q5
 simp only[VR.at,FK,DC,Am,List.map_replicate]
 obtain⟨q6,q7⟩:=q5
 refine⟨by simp,?_⟩
 rcases q7 with q7|⟨b,cap,cur,r1,r2,r3,r4,r5,r6,r7⟩
 ·exact .inl q7
 refine .inr ⟨b,cap,cur,r1,r2,r3,r4,r5,r6,fun i p hi=>?_⟩
 have hil:i<l.toNat:=by have:=Ho hi;simpa using this
 obtain⟨u,s1,s2,s3⟩:=r7 i (CW zv) (by rw[Dq];simp[hil])
 have hp:p=mk v0:=by
  rw[Dq]at hi
  have:=Bh hi
  exact List.eq_of_mem_replicate this
 rw[hp]
 exact⟨u,s1,s2,by rw[s3.1];exact hmk c'⟩
theorem yH{α:Type}{mk:α→SP}{xs:List α}{x y:Operand}{T:TypeId}{E eb:Nat}{ki:IntKind}{z:Int}{sv:Value}{T':Nat}(k:Nat)(ht:Iu P T=some (E,1,eb))(hx:Lk Γ δ ρ x (CW sv))(hy:Lk Γ δ ρ y (CW (.int ki z)))(hk:nth τ k=some (.c (DC sv mk xs T')))(h0:0≤z)(h1:z<xs.length):
  OpOK P n ops Γ ρ δ τ ⟨some d,.indexAddr T x y,ty,pos,af,none⟩ (.rd k) (.c (DW sv z.toNat)) ET:=by
 have:=O6 (n:=n) (ops:=ops) (d:=d) (ty:=ty) (pos:=pos) (af:=af) k ht hx hy hk h0 h1
 rw[Bz]at this
 exact this
theorem xz{tx0 ty0:Nat}{α:Type}{mk:α→SP}{xs:List α}{T:TypeId}{E eb:Nat}{ki:IntKind}{z:Int}{sv:Value}{T':Nat}(k:Nat)(ht:Iu P T=some (E,1,eb))(hx:(DA δ ρ tx0,DA δ ρ ty0,nth τ k)=(some (.c (CW sv)),some (.c (CW (.int ki z))),some (.c (DC sv mk xs T'))))(h0:0≤z)(h1:z<xs.length):OpOK P n ops Γ ρ δ τ ⟨some d,.indexAddr T (Operand.tmp tx0) (Operand.tmp ty0),ty,pos,af,none⟩ (.rd k) (.c (DW sv z.toNat)) ET:=by
 simp only[Ai]at hx
 obtain⟨hx,hy,hk⟩:=hx
 exact yH k ht (.t hx) (.t hy) hk h0 h1
theorem EZ{α:Type}{mk:α→SP}{xs:List α}{x:Operand}{t:TypeId}{sv:Value}(k:Nat){T E:Nat}{es eb:Nat}(ht:Iu P t=some (E,es,eb))(hx:Lk Γ δ ρ x (CW sv))(hk:nth τ k=some (.c (DC sv mk xs T))):
  OpOK P n ops Γ ρ δ τ ⟨some d,.call ⟨.builtin .len,#[x],#[t]⟩,ty,pos,af,none⟩ (.rd k) (.c (I6 (xs.length:Int))) ET:=Z8 k ht hx hk
theorem DH{α:Type}{mk:α→SP}{xs:List α}(dv:α){x:Operand}{T U:TypeId}{base:Value}{off:Nat}(k:Nat)(hT:KF P T=true)(hx:Lk Γ δ ρ x (DW base off))(hk:nth τ k=some (.c (DC base mk xs U)))(h1:off<xs.length):
  OpOK P n ops Γ ρ δ τ ⟨some d,.load T x,ty,pos,af,none⟩ (.rd k) (.c (mk (xs.getD off dv))) ET:=
 zN k hT hx hk (br (by omega)) (by rw[Qd,RE dv h1];rfl)
theorem Ux{α:Type}{mk:α→SP}{xs:List α}{v:α}{x y:Operand}{T U:TypeId}{base:Value}{off:Nat}(k:Nat)(hx:Lk Γ δ ρ x (DW base off))(hy:Lk Γ δ ρ y (mk v))(hc:F8 (mk v) [mk v])(hT:J5 P T=some 1)(hk:nth τ k=some (.c (DC base mk xs U)))(h1:off<xs.length):
  OpOK P n ops Γ ρ δ τ ⟨none,.store T x y,ty,pos,af,none⟩ (.wr k) (.c Ge) (.c (DC base mk (xs.set off v) U)):=
 Kz (cells:=xs.map mk) (cells':=(xs.set off v).map mk) k hx hy hc hT hk (by rw[List.map_set];exact Oe (by simpa using h1)) (by
  have:=Rv (sv:=base) (n:=xs.length) (k:=1) (cells:=xs.map mk) (cells':=(xs.set off v).map mk) (T:=U) (by omega) (by simp)
  simpa[DC]using this)
theorem xA{tx0 ty0:Nat}{α:Type}{mk:α→SP}{xs:List α}{v:α}{T U:TypeId}{base:Value}{off:Nat}(k:Nat)(hx:(DA δ ρ tx0,DA δ ρ ty0)=(some (.c (DW base off)),some (.c (mk v))))(hc:F8 (mk v) [mk v])(hT:J5 P T=some 1)(hk:nth τ k=some (.c (DC base mk xs U)))(h1:off<xs.length):OpOK P n ops Γ ρ δ τ ⟨none,.store T (Operand.tmp tx0) (Operand.tmp ty0),ty,pos,af,none⟩ (.wr k) (.c Ge) (.c (DC base mk (xs.set off v) U)):=by
 simp only[Ai]at hx
 obtain⟨hx,hy⟩:=hx
 exact Ux k (.t hx) (.t hy) hc hT hk h1
end ops
theorem yO{p q:SP}{Γ:D2}(h:p=q): ∀ v c,FH Γ c→p.H v c→q.H v c:=fun _ _ _ hv=>h▸hv
theorem yQ{r r':Res}(h:r=r'): ∀ c ob,r.H c ob→r'.H c ob:=fun _ _ hv=>h▸hv
theorem L8{p q:SP}{Γ:D2}(h:p=q): ∀ v c,FH Γ c→p.H v c→q.H v c:=fun _ _ _ hv=>h▸hv
theorem Dc{k:IntKind}{a b:Int}{Γ:D2}(h:a=b): ∀ v c,FH Γ c→(CW (.int k a)).H v c→(CW (.int k b)).H v c:=fun _ _ _ hv=>h▸hv
theorem Ia{a b:Bool}{Γ:D2}(h:a=b): ∀ v c,FH Γ c→(CW (.bool a)).H v c→(CW (.bool b)).H v c:=fun _ _ _ hv=>h▸hv
theorem bY{a b:Nat}{Γ:D2}(h:a=b): ∀ v c,FH Γ c→(Dm a).H v c→(Dm b).H v c:=fun _ _ _ hv=>h▸hv
theorem FZ{c:EW}:(Dm 0).H (.float .f64 0) c:=⟨0,rfl,by decide,by decide+kernel⟩
theorem IU{X:Cx}{P:Program}{fn:Func}{R:Ending→World→Prop}{Γ:D2}{ρ:DU}{σ:List Res}(h:JN X Γ ρ σ (bodyPost P fn R .ret)):JN X Γ ρ σ (bodyPost P fn R .normal):=h
def Sk(x:Nat):SP:=⟨fun v _=> ∃ b:Nat,v= .int .u64 (b:Int)∧b<2^64∧cn b=x,fun _ _ _ _ h=>h⟩
theorem Ct.bit{P:Program}{f x:Nat}{ps:List SP}{R:SP}(hH:V9 P f)(h: ∀ b:Nat,b<2^64→cn b=x→Ct P f (CW (.int .u64 (b:Int))::ps) R):Ct P f (Sk x::ps) R:=by
 refine⟨hH,fun vs c hwf ⟨hg,hv⟩=>?_⟩
 match vs,hv with
 |v::vs,hv=>
  obtain⟨⟨b,h1,h2,h3⟩,h4⟩:=hv
  exact(h b h2 h3).2 (v::vs) c hwf ⟨hg,⟨h1,rfl⟩,h4⟩
theorem Ct.res{P:Program}{f:Nat}{ps:List SP}{R R':SP}(h:Ct P f ps R)(hr: ∀ v c,R.H v c→R'.H v c):Ct P f ps R':=
 ⟨h.1,fun vs c hwf hv=>(h.2 vs c hwf hv).mono fun _ _ ⟨v,he,hx,hR⟩=>⟨v,he,hx,hr _ _ hR⟩⟩
def XR(b:Nat):SP:=CW (.int .u64 (b:Int))
abbrev u6(bs:List Nat):SP:=I2 XR bs
section ops
variable {P:Program} {n:Nat} {ops:Array Oper} {Γ:D2} {ρ:DU} {δ:DK} {τ:List VR}
variable {d:Nat} {ty:TypeId} {pos:String} {af:Array Edge}
theorem jQ{x:Nat}: ∀ (v:Value) (c:EW),(Dm x).H v c→ ∃ u m,(Go.Extern.MathFloatBits.float64bits #[v]).run P c.w= .ok u {c.w with drawn:=m}∧ ∀ c',(Sk x).H u c':=by
 rintro v c ⟨b,h1,h2,h3⟩
 subst h1
 exact⟨.int .u64 b,c.w.drawn,rfl,fun _=>⟨b,rfl,h2,h3⟩⟩
theorem jR{b:Nat}(hb:b<2^64): ∀ (v:Value) (c:EW),(XR b).H v c→ ∃ u m,(Go.Extern.MathFloatBits.float64frombits #[v]).run P c.w= .ok u {c.w with drawn:=m}∧ ∀ c',(Dm (cn b)).H u c':=by
 rintro v c ⟨h1,_⟩
 subst h1
 exact⟨.float .f64 b,c.w.drawn,rfl,fun _=>⟨b,rfl,hb,rfl⟩⟩
theorem Uf{x:Nat}: ∀ (v:Value) (c:EW),(Sk x).H v c→ ∃ u m,(Go.Extern.MathFloatBits.float64frombits #[v]).run P c.w= .ok u {c.w with drawn:=m}∧ ∀ c',(Dm x).H u c':=by
 rintro v c ⟨b,h1,h2,h3⟩
 subst h1
 exact⟨.float .f64 b,c.w.drawn,rfl,fun _=>⟨b,rfl,h2,h3⟩⟩
theorem Ik{f:Nat}{x:Operand}{v:Nat}{ats:Array TypeId}(hf:Ya P f Go.Extern.MathFloatBits.float64bits)(hx:Lk Γ δ ρ x (Dm v)):
  OpOK P n ops Γ ρ δ τ ⟨some d,.call ⟨.value (.func f),#[x],ats⟩,ty,pos,af,none⟩ .no (.c (Sk v)) ET:=Uq hf hx jQ
theorem Z3{f:Nat}{x:Operand}{b:Nat}{ats:Array TypeId}(hf:Ya P f Go.Extern.MathFloatBits.float64frombits)(hb:b<2^64)(hx:Lk Γ δ ρ x (XR b)):
  OpOK P n ops Γ ρ δ τ ⟨some d,.call ⟨.value (.func f),#[x],ats⟩,ty,pos,af,none⟩ .no (.c (Dm (cn b))) ET:=Uq hf hx (jR hb)
theorem WT{f:Nat}{x:Operand}{v:Nat}{ats:Array TypeId}(hf:Ya P f Go.Extern.MathFloatBits.float64frombits)(hx:Lk Γ δ ρ x (Sk v)):
  OpOK P n ops Γ ρ δ τ ⟨some d,.call ⟨.value (.func f),#[x],ats⟩,ty,pos,af,none⟩ .no (.c (Dm v)) ET:=Uq hf hx Uf
def oy(P:Program)(T:TypeId):Option (Nat×Nat×Nat):=match P.underlying T with
 |some (.array len E)=>(P.info? E).map fun i=>(len,E,i.size)
 |_=>none
theorem Uu{x y:Operand}{T len E es m:Nat}{k:IntKind}{z:Int}{cells cells':List SP}(hT:oy P T=some (len,E,es))(hE:MW P E=some m)(hx:Lk Γ δ ρ x (DL cells))(hy:Lk Γ δ ρ y (CW (.int k z)))(h0:0≤z)(h1:z<len)(hs:I3 (z.toNat*es) m cells=some cells'):
  OpOK P n ops Γ ρ δ τ ⟨some d,.index T x y,ty,pos,af,none⟩ .no (.c (DL cells')) ET:=
 DE fun a c _ hr=>by
  obtain⟨cs,g1,g2,g3⟩:=hr x _ (by simp[Op.operands]) hx
  have hz:=(hr y _ (by simp[Op.operands]) hy).1
  obtain⟨q1,q2,q3⟩:=Gz hs
  have hcl:=UX (off:=0) hs g3 (by omega)
  rw[Aq]at hcl
  unfold oy at hT
  cases hu:P.underlying T with
  |none=>rw[hu]at hT;cases hT
  |some D=>
   rw[hu]at hT
   cases D<;>first|(cases hT;done)|skip
   rename_i len' E'
   simp only at hT
   cases hi:P.info? E' with
   |none=>rw[hi]at hT;cases hT
   |some i=>
    rw[hi]at hT
    cases hT
    have hm:i.size=m:=by
     have:=Yn hE
     unfold J5 at this
     rw[hi]at this
     simpa using this
    subst hm
    refine⟨.agg (cs.extract (z.toNat*i.size) (z.toNat*i.size+i.size)),?_,_,rfl,by simp;omega,hcl⟩
    simp[execOp,Instr.index,asIntOf,g1,hz,run_underlying hu,h0,h1,sizeOf,typeInfo,hi,part,Oi hE,Zn (Yn hE)]
end ops
theorem HL.sub1{p:SP}{ps:List SP}{c:EW}: ∀ {vs:List Value},HL (p::ps) vs c→HL (Ge::ps) vs c
 |_::_,h=>⟨trivial,h.2⟩
section ops
variable {P:Program} {n:Nat} {ops:Array Oper} {Γ:D2} {ρ:DU} {δ:DK} {τ:List VR}
variable {d:Nat} {ty:TypeId} {pos:String} {af:Array Edge}
theorem yM{x y:Operand}{T:TypeId}{base:Value}{off:Nat}(k:Nat){p:SP}{l cells cells':List SP}{U:Nat}(hx:Lk Γ δ ρ x (DW base off))(hy:Lk Γ δ ρ y p)(hc:F8 p l)(hT:J5 P T=some l.length)
  (hk:nth τ k=some (.c (Dh base cells U))) (hl:Nat.ble (off+l.length) cells.length=true) (hp:PR off l cells=some cells'):
  OpOK P n ops Γ ρ δ τ ⟨none,.store T x y,ty,pos,af,none⟩ (.wr k) (.c Ge) (.c (Dh base cells' U)):=
 Kz k hx hy hc hT hk (yU hp (A8 hl)) (Ru (Ms hp).1)
theorem xn{tx0 ty0:Nat}{T:TypeId}{base:Value}{off:Nat}(k:Nat){p:SP}{l cells cells':List SP}{U:Nat}(hx:(DA δ ρ tx0,DA δ ρ ty0)=(some (.c (DW base off)),some (.c p)))(hc:F8 p l)(hT:J5 P T=some l.length)(hk:(nth τ k,Nat.ble (off+l.length) cells.length,PR off l cells)=(some (.c (Dh base cells U)),true,some cells')):OpOK P n ops Γ ρ δ τ ⟨none,.store T (Operand.tmp tx0) (Operand.tmp ty0),ty,pos,af,none⟩ (.wr k) (.c Ge) (.c (Dh base cells' U)):=by
 simp only[Ai]at hx
 obtain⟨hx,hy⟩:=hx
 simp only[Ai]at hk
 obtain⟨hk,hl,hp⟩:=hk
 exact yM k (.t hx) (.t hy) hc hT hk hl hp
theorem WO{T len E es:Nat}{parts:List (Nat×Operand)}{zs:List Value}{out:List SP}(hz:HC P T=some zs)(h1:zs.all (·.oneCell')=true)(hT:oy P T=some (len,E,es))(hb:Ie Γ δ ρ (fun i=>some (i*es,es)) parts (zs.map CW) out):
  OpOK P n ops Γ ρ δ τ ⟨some d,.build T parts.toArray,ty,pos,af,none⟩ .no (.c (DL out)) ET:=
 DE fun a c _ hr=>by
  unfold HC at hz
  unfold oy at hT
  cases hi:P.info? T with
  |none=>rw[hi]at hz;cases hz
  |some i=>
   rw[hi]at hz
   simp only[BT]at hz
   cases hzz:i.zero with
   |none=>rw[hzz]at hz;cases hz
   |some z=>
    rw[hzz]at hz
    simp only[AL,Ah]at hz
    cases hu:P.underlying T with
    |none=>rw[hu]at hT;cases hT
    |some D=>
     rw[hu]at hT
     cases D<;>first|(cases hT;done)|skip
     rename_i len' E'
     simp only at hT
     cases hi':P.info? E' with
     |none=>rw[hi']at hT;cases hT
     |some i'=>
      rw[hi']at hT
      cases hT
      have hza:z.cells=zs.toArray:=by rw[←hz]
      obtain⟨cells',q1,q2,q3⟩:=hb.run (a:=a) (c:=c) (fun x p hx hp'=>hr x p (by simpa[Op.operands]using hx) hp') z.cells (by rw[hza];simp) (by rw[hza];exact zCL h1)
      refine⟨.agg cells',?_,cells',rfl,q2,q3⟩
      simp only[execOp,Instr.build,zeroValue,typeInfo,Sem.run_bind,program,Sem.run,hi,hzz,Result.andThen_ok,Sem.run_pure,run_underlying hu,List.map_toArray,sizeOf,hi',q1]
end ops
theorem ER{α:Type}{X:Cx}{Γ:D2}{ρ:DU}{σ:List Res}{k:Code}{Q:Exit→Act→World→Prop}(t:Nat){mk:α→SP}{xs:List α}(h:ρ.get t=some (I2 mk xs))(hk:xs.length≤9223372036854775807→J X Γ ρ σ k Q):J X Γ ρ σ k Q:=fun a c hs=>by
 obtain⟨_,hv⟩:=hs.env t _ h
 refine hk ?_ a c hs
 rw[Az]at hv
 rcases hv with ⟨_,h2⟩|⟨ad,cap,_,h2,h3,_⟩
 ·omega
 simp only[maxLen]at h3;omega
def Sb(Γ:D2)(p q:SP):Prop:= ∀ v c,FH Γ c→p.H v c→q.H v c
inductive TG(Γ:D2):List SP→List SP→Prop where
 |nil:TG Γ [] []
 |cons {p q:SP} {ps qs:List SP} (h:Sb Γ p q) (hr:TG Γ ps qs):TG Γ (p::ps) (q::qs)
theorem TG.nth{Γ:D2}{ps qs:List SP}(h:TG Γ ps qs):ps.length=qs.length∧ ∀ i q,Bn.nth qs i=some q→ ∃ p,Bn.nth ps i=some p∧Sb Γ p q:=by
 induction h with
 |nil=>exact⟨rfl,fun i q h=>by simp[Bn.nth]at h⟩
 |cons h hr ih=>
  refine⟨by simp[ih.1],fun i q hq=>?_⟩
  cases i with
  |zero=>simp only[Bn.nth,Ah]at hq;subst hq;exact⟨_,rfl,h⟩
  |succ i=>exact ih.2 i q hq
section sb
variable {Γ:D2}
theorem zL{p:SP}:Sb Γ p p:=fun _ _ _ h=>h
theorem zM{p q r:SP}(h:Sb Γ p q)(k:Sb Γ q r):Sb Γ p r:=fun v c hf hv=>k v c hf (h v c hf hv)
theorem D3{p q:SP}(h:p=q):Sb Γ p q:=fun _ _ _ hv=>h▸hv
theorem Dr{α:Type}{mk:α→SP}:Sb Γ (CW (.slice none 0 0)) (I2 mk []):=fun _ _ _ h=>h.1▸cA
theorem HS{p:SP}:Sb Γ p Ge:=fun _ _ _ _=>trivial
theorem KE:Sb Γ (CW (.float .f64 0)) (Dm 0):=fun _ _ _ h=>h.1▸FZ (c:=⟨default,fun _=>False⟩)
theorem Dx{ps qs:List SP}(h:TG Γ ps qs):Sb Γ (DL ps) (DL qs):=fun v c hf ⟨cs,h1,h2,h3⟩=>by
 obtain⟨g1,g2⟩:=h.nth
 refine⟨cs,h1,by omega,fun i q hq=>?_⟩
 obtain⟨p,hp,hs⟩:=g2 i q hq
 obtain⟨u,hu,h4,h5⟩:=h3 i p hp
 exact⟨u,hu,h4,hs u c hf h5⟩
theorem HL.sb{c:EW}(hf:FH Γ c){ps qs:List SP}(h:TG Γ ps qs): ∀ {vs:List Value},HL ps vs c→HL qs vs c:=by
 induction h with
 |nil=>exact fun h=>h
 |cons h hr ih=>
  intro vs hv
  cases vs with
  |nil=>exact hv.elim
  |cons v vs=>exact⟨h v c hf hv.1,ih hv.2⟩
theorem Zo{ps qs:List SP}(h:TG Γ ps qs):Sb Γ (EP ps) (EP qs):=fun v c hf ⟨vs,h1,h2⟩=>⟨vs,h1,HL.sb hf h h2⟩
theorem yD{p q:SP}(h:Sb Γ p q):Sb Γ (UH [p]) q:=h
theorem Dk{p p' q q':SP}{ps qs:List SP}(h:TG Γ (p::p'::ps) (q::q'::qs)):Sb Γ (UH (p::p'::ps)) (EP (q::q'::qs)):=Zo h
end sb
theorem FU{α:Type}{sv:Value}{mk:α→SP}{xs ys:List α}{T:TypeId}(h:xs.length=ys.length):Y3 (DC sv mk xs T) (DC sv mk ys T):=by
 unfold DC;rw[←h];exact U7
theorem To.fdrop{X:Cx}{Γ:D2}{ρ:DU}{σ:List Res}{x:Value×SP}:To X (x::Γ) ρ σ Γ ρ σ:=fun a c hs=>
 ⟨c,rfl,hs.size,hs.defers,⟨fun v p hm=>hs.facts.1 v p (Bt _ hm),hs.facts.2⟩,hs.env,hs.own⟩
section ops
variable {P:Program} {n:Nat} {ops:Array Oper} {Γ:D2} {ρ:DU} {δ:DK} {τ:List VR}
variable {d:Nat} {ty:TypeId} {pos:String} {af:Array Edge}
theorem Ey{t s:Nat}{T:TypeId}(k:Nat){T':TypeId}{e:VE}{l:Vl→List SP}{cells:List SP}{r':VR}(hst:Nat.beq s t=false)(hx:DA δ ρ t=some (J6 t))(hy:DA δ ρ s=some e)(hc: ∀ f,F8 (e.at f) (l f))(hcg: ∀ f g:Vl,(∀ u,u∈e.D→f u=g u)→l f=l g)(hT: ∀ f,J5 P T=some (l f).length)
  (hk:nth τ k=some (Jr t cells T')) (hl: ∀ f,Nat.beq cells.length (l f).length=true)
  (he:r'= .d (t::e.D) (fun f=>Dh (f t) (l f) T') (fun f g h=>by rw[h t (by simp),hcg f g (fun u hu=>h u (Bt _ hu))])):
  OpOK P n ops Γ ρ δ τ ⟨none,.store T (.tmp t) (.tmp s),ty,pos,af,none⟩ (.wr k) (.c Ge) r':=by
 subst he
 intro a c ob hs hwf hf hr hres hno hown
 have hvs:=hr s (B3 _ (BM.2 ⟨.tmp s,by simp[Op.operands],rfl⟩)) _ hy
 have h:=O7 (P:=P) (n:=n) (ops:=ops) (Γ:=Γ) (ρ:=ρ) (δ:=(s,.c (e.at (vl a)))::δ) (τ:=τ) (ty:=ty) (pos:=pos) (af:=af) (t:=t) (y:= .tmp s) (T:=T) (p:=e.at (vl a)) (l:=l (vl a)) (cells:=cells) k (by simp only[DA,hst,cond_false];exact hx) (.t (by simp[DA])) (hc (vl a)) (hT (vl a)) hk (hl (vl a))
 have:=h a c ob hs hwf hf (fun u hu q hq=>by
  by_cases hus:s=u
  ·subst hus
   simp only[DA,Nat.beq_refl,cond_true,Ah]at hq
   subst hq
   exact hvs
  simp only[DA,FO hus,cond_false]at hq
  exact hr u hu q hq) hres hno hown
 simp only[Region.wanted,if_true]at this⊢
 exact this
end ops
section frz
variable {Γ:D2}
theorem Un{α:Type}{l:List α}{k:Nat}{x:α}(h:nth l k=some x):x∈l:=by rw[Dq]at h;exact Bh h
theorem Ed(k:Nat){u:Value}{p:SP}(h:nth Γ k=some (u,p)):Sb Γ (CW u) p:=fun _ _ hf hv=>by rw[hv.1];exact hf.1 u p (Un h)
theorem DN(k m:Nat){u:Value}{off:Nat}{cells cells':List SP}(h:nth Γ k=some (u,Gf cells))(hs:I3 off m cells=some cells'):Sb Γ (DW u off) (Gf cells'):=fun v c hf hv=>by
 obtain⟨b,hb,hv⟩:=hv
 obtain⟨b',off',cur,T,fz,h1,h2,h3,h4⟩:=hf.1 u _ (Un h)
 rcases hb with hb|⟨n,cap,hb⟩
 ·rw[hb]at h1
  cases h1
  refine⟨b,off,cur,T,fz,hv,h2,h3,fun i q hq=>?_⟩
  obtain⟨g1,g2,g3⟩:=Gz hs
  have him:i<m:=by have:=Ho hq;omega
  rw[g3 i him]at hq
  have:=h4 _ _ hq
  rwa [Aq]at this
 rw[hb]at h1;cases h1
theorem mX{ps qs:List SP}(h:TG Γ ps qs):Sb Γ (Gf ps) (Gf qs):=fun v c hf ⟨b,off,cur,T,fz,h1,h2,h3,h4⟩=>by
 obtain⟨g1,g2⟩:=h.nth
 refine⟨b,off,cur,T,fz,h1,h2,h3,fun i q hq=>?_⟩
 obtain⟨p,hp,hs⟩:=g2 i q hq
 obtain⟨u,hu,k1,k2⟩:=h4 i p hp
 exact⟨u,hu,k1,hs u c hf k2⟩
end frz
theorem OH.ct{P:Program}{f:Nat}{ps:List SP}{pr:Value→Value}{R:Value→SP}{r:Value→Res}{p:Value→SP}{R':SP}(h:OH P f ps pr R r)(hfz: ∀ u,KO (r u) u (p u))(hR: ∀ u,Sb [(u,p u)] (R u) R'):Ct P f ps R':=
 ⟨h.1,fun vs c hwf hv=>(h.2 vs c hwf hv).mono fun e w' ⟨v,ob,he,hx,hlt,h1,h2⟩=>by
  have hle:Le ⟨w',fun k=>c.M k∨ob k⟩ ⟨w',c.M⟩:=⟨rfl,rfl,rfl,A5 _,fun k hk hm=>⟨rfl,fun h0=>hm (.inl h0)⟩⟩
  have hf:=hfz _ _ _ _ h2 hle fun b hb=>⟨rfl,fun hm=>by have:=hwf b hm;have:=(hlt b hb).1;omega⟩
  refine⟨v,he,hx,hR (pr v) v _ ⟨fun u q hm=>?_,(hv.1.le hx.le).le ⟨rfl,rfl,rfl,A5 _,fun k hk hm=>⟨rfl,hm⟩⟩⟩ ((R (pr v)).st _ _ _ hle h1)⟩
  simp only[AE,Ai]at hm
  rw[hm.1,hm.2];exact hf⟩
theorem Lk.fn{P:Program}{Γ:D2}{δ:DK}{ρ:DU}{f:Nat}{C:Int→Int→Prop}{g:Int→Int→SP}(h: ∀ i j,C i j→Ct P f [I6 i,I6 j] (g i j))(hH:V9 P f):Lk Γ δ ρ (.func f) (yj (P:=P) C g):=fun c hf=>
 ⟨f,#[],rfl,hH,fun c' hle hwf i j hC=>by
  have:=(h i j hC).2 [.int .i64 i,.int .i64 j] c' hwf ⟨hf.2.le hle,⟨rfl,rfl⟩,⟨rfl,rfl⟩,trivial⟩
  simpa using this⟩
section ops
variable {P:Program} {n:Nat} {ops:Array Oper} {Γ:D2} {ρ:DU} {δ:DK} {τ:List VR}
theorem HP(s d:Nat){o:Oper}{e e':VE}{acc:Jg}{q:Vl→SP}{vr:VR}(hd:o.dst=some d)(hy:DA δ ρ s=some e)(hn:(e.D.all fun t=> !Nat.beq d t)=true)
  (h: ∀ f:Vl,OpOK P n ops Γ ρ ((s,.c (e.at f))::δ) τ o acc (.c (q f)) vr) (hc: ∀ f g:Vl,(∀ t,t∈e.D→f t=g t)→q f=q g) (he:e'= .d e.D q hc):OpOK P n ops Γ ρ δ τ o acc e' vr:=by
 subst he
 intro a c ob hs hwf hf hr hres hno hown
 have h1:=h (vl a) a c ob hs hwf hf (fun u hu p hp=>by
  by_cases hus:s=u
  ·subst hus
   simp only[DA,Nat.beq_refl,cond_true,Ah]at hp
   subst hp
   exact hr s hu e hy
  simp only[DA,FO hus,cond_false]at hp
  exact hr u hu p hp) hres hno hown
 have hq: ∀ v,q (Sx (vl a) o.dst v)=q (vl a):=fun v=>hc _ _ fun t ht=>by
  have:=B1.1 hn t ht
  rw[hd]
  show cond (Nat.beq d t) v (vl a t)=vl a t
  cases hb:Nat.beq d t
  ·rfl
  rw[hb]at this;cases this
 simp only[VE.at,hq]at h1⊢
 exact h1
end ops
theorem To.res{X:Cx}{Γ:D2}{ρ:DU}{σ σ':List Res}(k:Nat){r r':Res}(hr:nth σ k=some r)(h: ∀ c ob,r.H c ob→r'.H c ob)(hσ:EK σ k r'=σ'):To X Γ ρ σ Γ ρ σ':=by
 subst hσ
 intro a c hs
 obtain⟨obs,hown,hres⟩:=hs.own
 refine⟨c,rfl,hs.size,hs.defers,hs.facts,hs.env,obs,hown,fun j q hj=>?_⟩
 rw[G3]at hj
 by_cases hjk:j=k
 ·rw[if_pos hjk]at hj
  subst hjk
  rw[hr]at hj
  cases hj
  exact h _ _ (hres j r hr)
 rw[if_neg hjk]at hj
 exact hres j q hj
theorem To.slot{X:Cx}{Γ:D2}{ρ:DU}{σ:List Res}(t:Nat){p q:SP}(hp:ρ.get t=some p)(h:Sb Γ p q):To X Γ ρ σ Γ ((t,q)::ρ) σ:=fun a c hs=>
 ⟨c,rfl,hs.size,hs.defers,hs.facts,fun u r hr=>by
  simp only[DU.get]at hr
  by_cases hu:t=u
  ·subst hu
   simp at hr
   subst hr
   exact h _ _ hs.facts (hs.env t _ hp)
  rw[FO hu]at hr
  exact hs.env u r hr,hs.own⟩
section ops
variable {P:Program} {n:Nat} {ops:Array Oper} {Γ:D2} {ρ:DU} {δ:DK} {τ:List VR}
theorem LQ(s:Nat){o:Oper}{e:VE}{acc:Jg}{q:Vl→Res}{r':VR}(hd:o.dst=none)(hy:DA δ ρ s=some e)
  (h: ∀ f:Vl,OpOK P n ops Γ ρ ((s,.c (e.at f))::δ) τ o acc (.c Ge) (.c (q f))) (hc: ∀ f g:Vl,(∀ t,t∈e.D→f t=g t)→q f=q g) (he:r'= .d e.D q hc):OpOK P n ops Γ ρ δ τ o acc (.c Ge) r':=by
 subst he
 intro a c ob hs hwf hf hr hres hno hown
 have h1:=h (vl a) a c ob hs hwf hf (fun u hu p hp=>by
  by_cases hus:s=u
  ·subst hus
   simp only[DA,Nat.beq_refl,cond_true,Ah]at hp
   subst hp
   exact hr s hu e hy
  simp only[DA,FO hus,cond_false]at hp
  exact hr u hu p hp) hres hno hown
 rw[hd]at h1⊢
 exact h1
end ops
def yu(Q:Prop):SP:=⟨fun v _=> ∃ b,v= .bool b∧(b=true→Q),fun _ _ _ _ h=>h⟩
def Xq:List VR→Nat→VR→List VR
 |[],_,_=>[]
 |_::l,0,r=>r::l
 |x::l,k+1,r=>x::Xq l k r
theorem WL(r:VR): ∀ (l:List VR) (k j:Nat),nth (Xq l k r) j=if j=k then(nth l j).map (fun _=>r)else nth l j
 |[],k,j=>by simp[Xq,nth]
 |x::l,0,0=>by simp[Xq,nth]
 |x::l,0,j+1=>by simp[Xq,nth]
 |x::l,k+1,0=>by simp[Xq,nth]
 |x::l,k+1,j+1=>by simpa[Xq,nth]using WL r l k j
section ops
variable {P:Program} {n:Nat} {ops:Array Oper} {Γ:D2} {ρ:DU} {δ:DK} {τ:List VR}
variable {d:Nat} {ty:TypeId} {pos:String} {af:Array Edge}
theorem lz{α:Type}{mk:α→SP}{xs:List α}{x:Operand}{T E es eb:Nat}{t':TypeId}(hT:Iu P T=some (E,es,eb))(hx:Lk Γ δ ρ x (I2 mk xs)):
  OpOK P n ops Γ ρ δ τ ⟨some d,.binOp .eql T x (.const (.slice none 0 0)) t',ty,pos,af,none⟩ .no (.c (yu (xs=[]))) ET:=
 DE fun A c _ hr=>by
  obtain⟨hu,_⟩:=Ll hT
  obtain⟨_,hv⟩:=hr x _ (by simp[Op.operands]) hx
  rw[Az]at hv
  rcases hv with ⟨hv,h0⟩|⟨ad,cap,hv,_⟩
  ·refine⟨.bool true,?_,true,rfl,fun _=>CO h0⟩
   have hrun:=Lib.run_eql_slice_nil (P:=P) c.w T E none 0 0 0 0 hu
   simp[execOp,eqGuard,hv,show A.eval (.const (.slice none 0 0))= .slice none 0 0 from rfl,hrun]
  refine⟨.bool false,?_,false,rfl,fun h=>by cases h⟩
  have hrun:=Lib.run_eql_slice_nil (P:=P) c.w T E (some ad) xs.length cap 0 0 hu
  simp[execOp,eqGuard,hv,show A.eval (.const (.slice none 0 0))= .slice none 0 0 from rfl,hrun]
theorem eZ{α:Type}{mk:α→SP}{T E eb:Nat}(k:Nat)(ht:Iu P T=some (E,1,eb))(hk:nth τ k=some (.c emp)):
  OpOK P n ops Γ ρ δ τ ⟨some d,.buildSlice T 0 #[],ty,pos,af,none⟩ (.wr k) (MD d) (.d [d] (fun f=>DC (f d) mk [] E) (fun f g h=>by rw[h d (AE.2 rfl)])):=by
 obtain⟨hu,i,hi,hsz,_⟩:=Ll ht
 refine ll (T:=E) (m:=0) (kk:=1) (cells:=[]) k hk rfl fun a c _ hr=>⟨0,#[],?_,A5 _,A7 _,rfl,fun j p hj=>by simp[nth]at hj⟩
 simp[execOp,Instr.buildSlice,run_underlying hu,sizeOf,typeInfo,hi,hsz,newRow,Array.range_zero',Instr.fill]
theorem tw(s k:Nat){o:Oper}{e':VE}{acc:Jg}{r':VR}{q:Vl→Res}{hq: ∀ f g:Vl,(∀ t,t∈ [s]→f t=g t)→q f=q g}(hy:DA δ ρ s=some (MD s))(hk:nth τ k=some (.d [s] q hq))
  (h: ∀ u:Value,OpOK P n ops Γ ρ ((s,.c (CW u))::δ) (Xq τ k (.c (q (fun _=>u)))) o acc e' r'):OpOK P n ops Γ ρ δ τ o acc e' r':=by
 intro a c ob hs hwf hf hr hres hno hown
 refine h (vl a s) a c ob hs hwf hf (fun u hu p hp=>?_) (fun k' hk'=>?_) hno hown
 ·by_cases hus:s=u
  ·subst hus
   simp only[DA,Nat.beq_refl,cond_true,Ah]at hp
   subst hp
   exact(show(CW (vl a s)).H (vl a s) c from hr s hu (MD s) hy)
  simp only[DA,FO hus,cond_false]at hp
  exact hr u hu p hp
 obtain⟨r,h1,h2⟩:=hres k' hk'
 rw[WL]
 by_cases hkk:k'=k
 ·subst hkk
  rw[hk]at h1
  cases h1
  rw[if_pos rfl,hk]
  refine⟨_,rfl,?_⟩
  have e:q (fun _=>vl a s)=q (vl a):=hq _ _ fun t ht=>by rw[AE.1 ht]
  show(q (fun _=>vl a s)).H c ob
  rw[e]
  exact h2
 rw[if_neg hkk]
 exact⟨r,h1,h2⟩
end ops
section cond
variable {X:Cx} {Γ:D2} {ρ:DU} {σ:List Res} {Q:Exit→Act→World→Prop}
theorem oH{R:Prop}{x:Operand}{thn els:Code}(hx:Lk Γ [] ρ x (yu R))(h1:R→J X Γ ρ σ thn Q)(h2:J X Γ ρ σ els Q):J X Γ ρ σ (.cond x thn els) Q:=
 oG fun a c hs=>by
  obtain⟨b,hb,hR⟩:=hx.holds hs.facts hs.env
  exact⟨b,hb,fun h=>h1 (hR h) a c hs,fun _=>h2 a c hs⟩
end cond
def nU(v:Value):Value:=match v with| .tuple vs=>vs.getD 0 undef|v=>v
def xU(v:Value):Value:=ZY 2 (nU v)
section two
variable {P:Program} {Γ:D2} {ρ:DU}
theorem NA{σ:List Res}{fn:Func}{n:Nat}{c0:EW}{pr:Value→Value}{R:Value→SP}{r:Value→Res}{p1 p2:SP}{rv1 rv2:ResultVar}{u:Value}(j:Nat)(hj:nth σ j=some (r u))(hrv:fn.results.toList=[rv1,rv2])(hr:ox P Γ ρ σ [rv1,rv2] [p1,p2])(hpr: ∀ v1 v2 c,p1.H v1 c→pr (.tuple #[v1,v2])=u)(hR:Sb Γ (EP [p1,p2]) (R u)):
  JN ⟨P,n,c0,fun _=>False,[]⟩ Γ ρ σ (bodyPost P fn (uk c0 pr R r) .ret):=fun a c hs=>by
 obtain⟨vs,h1,h2⟩:=hr.run hs
 obtain⟨obs,hown,hres⟩:=hs.own
 obtain⟨hx,_⟩:=hs.xt
 have hrj:=hres j _ hj
 have hlow: ∀ b,obs j b→c0.w.heap.size≤b∧b<c.w.heap.size:=fun b hb=>⟨(hown.has j b hb).2.resolve_right (fun h=>h),hown.lt hb⟩
 have hle:Le c ⟨c.w,fun k=>c0.M k∨obs j k⟩:=⟨rfl,rfl,rfl,A5 _,fun k hk hm=>⟨rfl,fun h0=>hm (by
  rcases h0 with h0|h0
  ·exact((hown.mem k (hown.wf0 k h0)).2 h0).resolve_right id
  exact(hown.has j k h0).1)⟩⟩
 match vs,h2 with
 |[v1,v2],h2=>
  have hres1:(results fn a.tmps).run P c.w= .ok (.tuple #[v1,v2]) c.w:=by
   have:=IQ (P:=P) (fn:=fn) (tmps:=a.tmps) (w:=c.w) (vs:=[v1,v2]) (by rw[hrv];exact h1)
   simpa using this
  have hu:pr (.tuple #[v1,v2])=u:=hpr v1 v2 c h2.1
  have ht:(EP [p1,p2]).H (.tuple #[v1,v2]) c:=⟨[v1,v2],rfl,h2⟩
  refine⟨hs.defers,_,hres1,_,obs j,rfl,hx,hlow,?_,?_⟩
  ·rw[hu];exact hR _ _ (hs.facts.le hle) ((EP [p1,p2]).st _ _ _ hle ht)
  rw[hu];exact(r u).fr _ _ _ hle (fun _ _=>rfl) hrj
end two
section cond
variable {X:Cx} {Γ:D2} {ρ:DU} {σ:List Res} {Q:Exit→Act→World→Prop}
theorem GZ{Γ':D2}{ρ':DU}{σ':List Res}(hp:To X Γ ρ σ Γ' ρ' σ'):JN X Γ ρ σ (Exit.then (fun a w=> ∃ c',c'.w=w∧St X Γ' ρ' σ' a c') Q .normal):=fun a c hs=>hp a c hs
end cond
def Lq{α:Type}(k:Nat)(mk:α→List SP)(xs:List α):SP:=Mv xs.length k (xs.flatMap mk)
def Gd{α:Type}(sv:Value)(k:Nat)(mk:α→List SP)(xs:List α)(T:TypeId):Res:=Za sv xs.length k (xs.flatMap mk) T
theorem LG{α:Type}{sv:Value}{k:Nat}{mk:α→List SP}{xs:List α}{T:TypeId}:KO (Gd sv k mk xs T) sv (Lq k mk xs):=aO
theorem Ow{α:Type}{k:Nat}{mk:α→List SP}{T:TypeId}: ∀ c ob,emp.H c ob→(Gd (.slice none 0 0) k mk [] T).H c ob:=fun c ob h=>⟨by simp,.inl ⟨rfl,rfl,h⟩⟩
theorem GI{α:Type}{k:Nat}{mk:α→List SP}{Γ:D2}:Sb Γ (CW (.slice none 0 0)) (Lq k mk []):=fun _ _ _ h=>h.1▸⟨by simp,.inl ⟨rfl,rfl⟩⟩
theorem uQ{α:Type}{k:Nat}{mk:α→List SP}{xs:List α}:F8 (Lq k mk xs) [Lq k mk xs]:=Fe
theorem Jl{α:Type}{mk:α→List SP}{es:Nat}(hl: ∀ a,(mk a).length=es)(dv:α): ∀ {xs:List α} {i j:Nat},i<xs.length→j<es→nth (xs.flatMap mk) (i*es+j)=nth (mk (xs.getD i dv)) j
 |[],i,j,hi,hj=>by simp at hi
 |x::xs,0,j,hi,hj=>by
  rw[Dq,Dq,B8,BR,Aq,AW (by rw[hl];exact hj)]
  rfl
 |x::xs,i+1,j,hi,hj=>by
  have ih:=Jl hl dv (xs:=xs) (i:=i) (j:=j) (by simpa using hi) hj
  rw[Dq,Dq]at ih
  rw[Dq,Dq,B8,Bp (by rw[hl,AO];omega),hl]
  rw[show(i+1)*es+j-es=i*es+j by rw[AO];omega,ih]
  rfl
section ops
variable {P:Program} {n:Nat} {ops:Array Oper} {Γ:D2} {ρ:DU} {δ:DK} {τ:List VR}
variable {d:Nat} {ty:TypeId} {pos:String} {af:Array Edge}
theorem Ef{α:Type}{k:Nat}{mk:α→List SP}{xs:List α}{x:Operand}{t:TypeId}{E es eb:Nat}(ht:Iu P t=some (E,es,eb))(hx:Lk Γ δ ρ x (Lq k mk xs)):
  OpOK P n ops Γ ρ δ τ ⟨some d,.call ⟨.builtin .len,#[x],#[t]⟩,ty,pos,af,none⟩ .no (.c (I6 (xs.length:Int))) ET:=Z7 ht hx
theorem DX{α:Type}{mk:α→List SP}{xs:List α}(dv:α){x y:Operand}{T E es eb:Nat}{k:IntKind}{z:Int}(ht:Iu P T=some (E,es,eb))(hl: ∀ a,(mk a).length=es)(hx:Lk Γ δ ρ x (Lq es mk xs))(hy:Lk Γ δ ρ y (CW (.int k z)))(h0:0≤z)(h1:z<xs.length):
  OpOK P n ops Γ ρ δ τ ⟨some d,.indexAddr T x y,ty,pos,af,none⟩ .no (.c (Gf (mk (xs.getD z.toNat dv)))) ET:=
 Z6 ht hx hy h0 h1 fun j p hj=>by
  have hjl:=Ho hj
  rw[hl]at hjl
  rw[Jl hl dv (by omega) hjl]
  exact hj
theorem IN{α:Type}{mk:α→List SP}{xs:List α}(v:α){x y:Operand}{T E es eb:Nat}(k:Nat){sv:Value}{zs:List Value}(ht:Iu P T=some (E,es,eb))(hz:HC P E=some zs)(hzl:Nat.beq zs.length es=true)(hes:Nat.blt 0 es=true)(hx:Lk Γ δ ρ x (CW sv))(hy:Lk Γ δ ρ y (Mv 1 es (mk v)))
  (hk:nth τ k=some (.c (Gd sv es mk xs E))) (h63:xs.length+1≤9223372036854775807) (hb:(xs.length+1)*eb≤140737488355328):
  OpOK P n ops Γ ρ δ τ ⟨some d,.call ⟨.builtin .append,#[x,y],#[T,T]⟩,ty,pos,af,none⟩ (.wr k) (MD d) (.d [d] (fun f=>Gd (f d) es mk (xs++ [v]) E) (fun f g h=>by rw[h d (AE.2 rfl)])):=by
 have h:=P3 (n:=n) (ops:=ops) (d:=d) (ty:=ty) (pos:=pos) (af:=af) k ht hz hzl hes hx hy hk rfl h63 hb (all:=(xs++ [v]).flatMap mk) (by simp)
 intro a c ob g1 g2 g3 g4 g5 g6 g7
 have:=h a c ob g1 g2 g3 g4 g5 g6 g7
 have e:xs.length+1=(xs++ [v]).length:=by simp
 simp only[Li,VR.at]at this
 simp only[VR.at,Gd]
 rw[←e]
 exact this
end ops
section fn
variable {P:Program}
def fnq(P:Program){α:Type}(C:α→Prop)(ps:α→List SP)(R:α→SP):SP:=⟨fun v c=> ∃ fid capt,v= .func (.func fid) #[] capt∧V9 P fid∧ ∀ c',Le c c'→(∀ k,c'.M k→k<c'.w.heap.size)→ ∀ a,C a→ ∀ vs:List Value,HL (ps a) vs c'→Calls P fid (vs.toArray++capt) c'.w (fun e w'=> ∃ v,e= .returned v∧Xt c' w'∧(R a).H v ⟨w',c'.M⟩),by
 rintro v c c' hle ⟨fid,capt,h1,h2,h3⟩
 exact⟨fid,capt,h1,h2,fun c'' h=>h3 c'' (hle.trans h)⟩⟩
theorem HL.app{ps qs:List SP}{c:EW}: ∀ {vs ws:List Value},HL ps vs c→HL qs ws c→HL (ps++qs) (vs++ws) c:=by
 induction ps with
 |nil=>intro vs ws h k;cases vs with|nil=>exact k|cons v vs=>exact h.elim
 |cons p ps ih=>intro vs ws h k;cases vs with|nil=>exact h.elim|cons v vs=>exact⟨h.1,ih h.2 k⟩
theorem Lk.fnq{Γ:D2}{δ:DK}{ρ:DU}{f:Nat}{α:Type}{C:α→Prop}{ps:α→List SP}{R:α→SP}(h: ∀ a,C a→Ct P f (ps a) (R a))(hH:V9 P f):Lk Γ δ ρ (.func f) (fnq P C ps R):=fun c hf=>
 ⟨f,#[],rfl,hH,fun c' hle hwf a hC vs hv=>by
  have:=(h a hC).2 vs c' hwf ⟨hf.2.le hle,hv⟩
  simpa using this⟩
variable {n:Nat} {ops:Array Oper} {Γ:D2} {ρ:DU} {δ:DK} {τ:List VR}
variable {d:Nat} {ty:TypeId} {pos:String} {af:Array Edge}
theorem WQ{x:Operand}{xs:List Operand}{α:Type}{C:α→Prop}{ps:α→List SP}{R:α→SP}(i:α){ats:Array TypeId}(hx:Lk Γ δ ρ x (fnq P C ps R))(ha:Sf Γ δ ρ xs (ps i))(hC:C i):
  OpOK P n ops Γ ρ δ τ ⟨some d,.call ⟨.value x,xs.toArray,ats⟩,ty,pos,af,none⟩ .no (.c (R i)) ET:=by
 intro a c ob hs hwf hfa hr hres hno hown
 have hob:=hno rfl
 subst hob
 have hrd:=fun x' q hx' hq=>Lk.val (p:=q) (o:=⟨some d,.call ⟨.value x,xs.toArray,ats⟩,ty,pos,af,none⟩) hr hfa (x:=x') hx' hq
 obtain⟨fid,capt,h1,h2,h3⟩:=hrd x _ (by simp[Op.operands,Call.operands]) hx
 have hv:=ha.val (a:=a) (c:=c) fun x' q hx' hq=>hrd x' q (by simp[Op.operands,Call.operands,hx']) hq
 simp only[Region.wanted,if_true]
 unfold GP
 have hex:(execOp a.eval ⟨some d,.call ⟨.value x,xs.toArray,ats⟩,ty,pos,af,none⟩).run P c.w= .ok (.enter fid ((xs.map a.eval).toArray++capt)) c.w:=by
  have h6:=EF h2 ((xs.map a.eval).toArray++capt) c.w
  simp[execOp,resolve,Deferred.ofValue,h1,invoke,h6]
 rw[hex]
 exact(h3 c (Le.refl c) hwf i hC _ hv).mono fun e w' ⟨v,he,hxt,hR⟩=>⟨v,he,⟨w',c.M⟩,Ix,rfl,hxt.tr hwf Ix,hR,fun h=>(by cases h)⟩
end fn
def FI(x:Nat):Nat:=x/4503599627370496 % 2048
def He(x:Nat):Nat:=x % 4503599627370496
def DF(x:Nat):Bool:=decide (FI x<2047)
def JJ(x:Nat):Int:=if FI x=2047∧He x≠0 then 1 else if FI x=2047 then 2 else if FI x=0∧He x=0 then 3 else if FI x=0 then 4 else 5
theorem VD{x:Nat}:(JJ x≠1∧JJ x≠2)↔DF x=true:=by
 unfold JJ DF
 have:FI x<2048:=Ap _ (by omega)
 by_cases h1:FI x=2047
 ·by_cases h2:He x=0<;>simp[h1,h2]
 rw[if_neg (by simp[h1]),if_neg h1,decide_eq_true (by omega)]
 by_cases h3:FI x=0
 ·by_cases h4:He x=0<;>simp[h3,h4]
 simp[h3]
theorem uJ{x:Nat}:decide (2<JJ x)=DF x:=by
 unfold JJ DF
 have:FI x<2048:=Ap _ (by omega)
 by_cases h1:FI x=2047
 ·by_cases h2:He x=0<;>simp[h1,h2]
 rw[if_neg (by simp[h1]),if_neg h1,decide_eq_true (by omega:FI x<2047)]
 by_cases h3:FI x=0
 ·by_cases h4:He x=0<;>simp[h3,h4]
 simp[h3]
theorem Gk(b:Nat)(h:b<2^64):(BitVec.ofInt 64 (b:Int)).toNat=b:=by
 rw[BitVec.toNat_ofInt]
 omega
theorem oh(z:Nat)(h:z<2^64):IntKind.u64.wrap (z:Int)=z:=by
 unfold IntKind.wrap
 simp[IntKind.bits,IntKind.signed]
 omega
theorem NC(a b:Nat)(ha:a<2^64)(hb:b<2^64):Ej .and .u64 a b=((a&&&b:Nat):Int):=by
 show IntKind.u64.wrap ((BitVec.ofInt 64 (a:Int)&&&BitVec.ofInt 64 (b:Int)).toNat:Int)=_
 rw[BitVec.toNat_and,Gk a ha,Gk b hb]
 exact oh _ (C8 Nat.and_le_left ha)
theorem KQ(a b:Nat)(ha:a<2^64)(hb:b<2^64):Ej .or .u64 a b=((a|||b:Nat):Int):=by
 show IntKind.u64.wrap ((BitVec.ofInt 64 (a:Int)|||BitVec.ofInt 64 (b:Int)).toNat:Int)=_
 rw[BitVec.toNat_or,Gk a ha,Gk b hb]
 exact oh _ (Nat.or_lt_two_pow ha hb)
theorem Ps(a b:Nat)(ha:a<2^64)(hb:b<2^64):Ej .andNot .u64 a b=((a&&&(2^64-1-b):Nat):Int):=by
 show IntKind.u64.wrap ((BitVec.ofInt 64 (a:Int)&&& ~~~BitVec.ofInt 64 (b:Int)).toNat:Int)=_
 rw[BitVec.toNat_and,BitVec.toNat_not,Gk a ha,Gk b hb]
 exact oh _ (C8 Nat.and_le_left ha)
theorem M6(a k:Nat):a&&&(2^k-1)=a % 2^k:=Nat.and_two_pow_sub_one_eq_mod a k
theorem ji(a b:Nat)(hb:0<b):(a:Int).fdiv (b:Int)=((a/b:Nat):Int):=by
 rw[Bw _ (by omega)]
 rfl
theorem Vt(b:Nat)(h:b<2^64):Ej .andNot .u64 b 9223372036854775808=((b % 9223372036854775808:Nat):Int):=by
 rw[show(9223372036854775808:Int)=((9223372036854775808:Nat):Int)from rfl,Ps b _ h (by decide)]
 rw[show(2^64-1-9223372036854775808:Nat)=2^63-1 by decide,M6]
theorem Jz(b k:Nat)(hk:k≤64):(b:Int).fdiv (2^min ((k:Int)).toNat 64)=((b/2^k:Nat):Int):=by
 have e:min ((k:Int)).toNat 64=k:=by simp;omega
 rw[e,show(2^k:Int)=((2^k:Nat):Int) by simp,ji _ _ (Ax _)]
theorem dK{b:Nat}(hb:b<2^64):Ej .and .u64 ((cn b/4503599627370496:Nat):Int) 2047=((FI (cn b):Nat):Int):=by
 have h:=au hb
 rw[show(2047:Int)=((2047:Nat):Int)from rfl,NC _ _ (by omega) (by decide)]
 rw[show(2047:Nat)=2^11-1 by decide,M6]
 rfl
theorem NL(x:Nat):IntKind.i64.wrap ((FI x:Nat):Int)=((FI x:Nat):Int):=by
 have:FI x<2048:=Ap _ (by omega)
 rw[IntKind.wrap_i64];omega
theorem SV{b:Nat}(hb:b<2^64):Ej .and .u64 ((cn b:Nat):Int) 4503599627370495=((He (cn b):Nat):Int):=by
 rw[show(4503599627370495:Int)=((4503599627370495:Nat):Int)from rfl,NC _ _ (au hb) (by decide)]
 rw[show(4503599627370495:Nat)=2^52-1 by decide,M6]
 rfl
theorem Yc{X:Cx}{Γ:D2}{ρ:DU}{σ:List Res}{k:Code}{Q:Exit→Act→World→Prop}(t:Nat){x:Nat}(h:ρ.get t=some (Dm x))(hk:x<2^64→cn x=x→J X Γ ρ σ k Q):J X Γ ρ σ k Q:=fun a c hs=>by
 obtain⟨b,_,hb,rfl⟩:=hs.env t _ h
 exact hk (au hb) (yd b) a c hs
theorem dO(x:Nat):Lp x x=if FN x then none else some .eq:=by
 unfold Lp Ieee.Format.order FN
 cases Ieee.double.read x with
 |nan n f=>rfl
 |infinity n=>cases n<;>rfl
 |number n m e=>simp[Ieee.Datum.order,Ieee.Datum.isNaN,Std.ReflCmp.compare_self]
theorem OQ(x:Nat):Gp .neq x x=FN x:=by
 unfold Gp
 simp only[dO]
 cases FN x<;>rfl
theorem Vy{x:Nat}(h:FN x=false): ∀ v c,(Sk x).H v c→(CW (.int .u64 (x:Int))).H v c:=by
 rintro v c ⟨b,h1,h2,h3⟩
 have:FN b=false:=by rw[←Mn,h3];exact h
 rw[EA this]at h3
 subst h3
 exact⟨h1,rfl⟩
theorem iv{α:Type}{f:α→Bool}{xs:List α}{k:Nat}(d:α)(hk:k<xs.length)(h:f (xs.getD k d)=false):xs.all f=false:=by
 cases hx:xs.all f
 ·rfl
 have:=(B1.1 hx) (xs.getD k d) (by rw[List.getD,Ag hk];exact List.getElem_mem hk)
 rw[h]at this;cases this
theorem Vs{α:Type}{f:α→Bool}{xs:List α}{k:Nat}(d:α)(hk:k<xs.length)(h1:(xs.take k).all f=true)(h2:f (xs.getD k d)=true):(xs.take (k+1)).all f=true:=by
 rw[List.take_succ_eq_append_getElem hk,List.all_append,h1]
 have:xs.getD k d=xs[k]:=by rw[List.getD,Ag hk];rfl
 rw[this]at h2
 simp[h2]
theorem SG{α:Type}{f:α→Bool}{xs:List α}{k:Nat}(hk:xs.length≤k)(h1:(xs.take k).all f=true):xs.all f=true:=by
 rwa [AN hk]at h1
theorem GA{α:Type}{xs:List α}{k:Nat}(d:α)(hk:k<xs.length):xs.take (k+1)=xs.take k++ [xs.getD k d]:=by
 rw[List.take_succ_eq_append_getElem hk,List.getD,Ag hk];rfl
def te(e f m:Int):Int:=if e=m∧f≠0 then 1 else if e=m then 2 else if e=0∧f=0 then 3 else if e=0 then 4 else 5
theorem oT(x:Nat):te (FI x) (He x) 2047=JJ x:=by
 unfold te JJ
 have e1:((FI x:Nat):Int)=2047↔FI x=2047:=by omega
 have e2:((He x:Nat):Int)=0↔He x=0:=by omega
 have e3:((FI x:Nat):Int)=0↔FI x=0:=by omega
 simp only[e1,e2,e3,ne_eq]
theorem IJ{α:Type}{xs:List α}{k:Nat}(d:α)(hk:k<xs.length):xs.getD k d∈xs:=by
 rw[List.getD,Ag hk];exact List.getElem_mem hk
def Kc(x:Nat):Nat:=if FN x then oJ else x % 9223372036854775808
theorem pH{b:Nat}:Kc (cn b)=cn (b % 9223372036854775808):=by
 unfold Kc
 rw[Mn]
 cases h:FN b
 ·rw[EA h]
  have:FN (b % 9223372036854775808)=false:=by
   rw[Jv]at h⊢
   rw[Nat.mod_mod];exact h
  rw[EA this]
  simp
 have:FN (b % 9223372036854775808)=true:=by
  rw[Jv]at h⊢
  rw[Nat.mod_mod];exact h
 rw[Hr this]
 simp
section ops
variable {P:Program} {n:Nat} {ops:Array Oper} {Γ:D2} {ρ:DU} {δ:DK} {τ:List VR}
variable {d:Nat} {ty:TypeId} {pos:String} {af:Array Edge}
theorem qZ{x:Operand}{t t':TypeId}{a:Nat}(hx:Lk Γ δ ρ x (Sk a)):
  OpOK P n ops Γ ρ δ τ ⟨some d,.binOp .andNot t x (.const (.int .u64 9223372036854775808)) t',ty,pos,af,none⟩ .no (.c (Sk (Kc a))) ET:=
 DE fun A c _ hr=>by
  obtain⟨b,h1,h2,rfl⟩:=hr x _ (by simp[Op.operands]) hx
  have hz:Ej .andNot .u64 (b:Int) 9223372036854775808=((b % 9223372036854775808:Nat):Int):=by
   have h3:=Ps b 9223372036854775808 h2 (by decide)
   rw[show((9223372036854775808:Int))=((9223372036854775808:Nat):Int)from rfl,h3,show 2^64-1-9223372036854775808=2^63-1 by decide,Nat.and_two_pow_sub_one_eq_mod]
  refine⟨.int .u64 ((b % 9223372036854775808:Nat):Int),?_,b % 9223372036854775808,rfl,by omega,pH.symm⟩
  rw[←hz]
  simp[execOp,eqGuard,binOp,Op.intBits,h1,Ej,show A.eval (.const (.int .u64 9223372036854775808))= .int .u64 9223372036854775808 from rfl]
theorem LO{x y:Operand}{t t':TypeId}{a b:Bool}(hT:P.underlying t=some .bool)(hx:Lk Γ δ ρ x (CW (.bool a)))(hy:Lk Γ δ ρ y (CW (.bool b))):
  OpOK P n ops Γ ρ δ τ ⟨some d,.binOp .neq t x y t',ty,pos,af,none⟩ .no (.c (CW (.bool (a !=b)))) ET:=
 DE fun A c _ hr=>by
  have h1:=(hr x _ (by simp[Op.operands]) hx).1
  have h2:=(hr y _ (by simp[Op.operands]) hy).1
  refine⟨.bool (a !=b),?_,rfl,rfl⟩
  have hrun:=run_neq_bool (P:=P) c.w t a b hT
  have e:(!(a==b))=(a !=b):=rfl
  rw[e]at hrun
  simp[execOp,eqGuard,h1,h2,hrun]
end ops
section ops
variable {P:Program} {n:Nat} {ops:Array Oper} {Γ:D2} {ρ:DU} {δ:DK} {τ:List VR}
variable {d:Nat} {ty:TypeId} {pos:String} {af:Array Edge}
theorem qX{op:Op}{p:SP}
  (h: ∀ (a:Act) (c:EW),(∀ k,c.M k→k<c.w.heap.size)→FH Γ c→(∀ x q,x∈op.operands→Lk Γ δ ρ x q→q.H (a.eval x) c)→ ∃ v,((execOp a.eval ⟨some d,op,ty,pos,af,none⟩).run P c.w= .ok (.value v) c.w∧p.H v c)∨
   ∃ (dr:Nat) (cur:Array Value) (T:TypeId),(execOp a.eval ⟨some d,op,ty,pos,af,none⟩).run P c.w= .ok (.value v) ({c.w with drawn:=dr}.alloc (.cells cur T))∧ ∀ c':EW,Le c c'→ ¬c'.M c.w.heap.size→c'.w.heap[c.w.heap.size]? =some (.cells cur T (0,0))→p.H v c'):
  OpOK P n ops Γ ρ δ τ ⟨some d,op,ty,pos,af,none⟩ .no (.c p) ET:=by
 intro a c ob hs hwf hf hr hres hno hown
 have hob:=hno rfl
 subst hob
 obtain⟨v,hv⟩:=h a c hwf hf (fun x q hx hq=>Lk.val (o:=⟨some d,op,ty,pos,af,none⟩) hr hf hx hq)
 simp only[Region.wanted,if_true]
 unfold GP
 rcases hv with ⟨hex,hp⟩|⟨dr,cur,T,hex,hp⟩
 ·rw[hex]
  exact⟨c,Ix,rfl,Tr.refl hwf,hp,fun h=>(by cases h)⟩
 rw[hex]
 have e:({c.w with drawn:=dr}.alloc (.cells cur T)).heap.size=c.w.heap.size+1:=by simp
 have htr:Tr c Ix false ⟨{c.w with drawn:=dr}.alloc (.cells cur T),c.M⟩ Ix:=
  ⟨rfl,rfl,rfl,by simp,fun j hj _=>heap_alloc_old {c.w with drawn:=dr} _ j hj,fun j hj=>⟨id,.inl⟩,.inl rfl,fun j hj=>by
   show j<({c.w with drawn:=dr}.alloc (.cells cur T)).heap.size
   rw[e]
   have:=hwf j hj;omega⟩
 refine⟨_,Ix,rfl,htr,hp _ (htr.le (fun _ h=>by cases h)) (fun hm=>?_) (heap_alloc_new {c.w with drawn:=dr} _),fun h=>(by cases h)⟩
 have:=hwf _ hm
 omega
theorem Ut{x y:Operand}{T len E es off o':Nat}{k:IntKind}{z:Int}{base:Value}(hT:oy P T=some (len,E,es))(hx:Lk Γ δ ρ x (DW base off))(hy:Lk Γ δ ρ y (CW (.int k z)))(h0:0≤z)(h1:z<len)(ho:off+z.toNat*es=o'):
  OpOK P n ops Γ ρ δ τ ⟨some d,.indexAddr T x y,ty,pos,af,none⟩ .no (.c (DW base o')) ET:=
 DE fun a c _ hr=>by
  subst ho
  obtain⟨b,hb,hv⟩:=hr x _ (by simp[Op.operands]) hx
  have hz:=(hr y _ (by simp[Op.operands]) hy).1
  unfold oy at hT
  cases hu:P.underlying T with
  |none=>rw[hu]at hT;cases hT
  |some D=>
   rw[hu]at hT
   cases D<;>first|(cases hT;done)|skip
   rename_i len' E'
   simp only at hT
   cases hi:P.info? E' with
   |none=>rw[hi]at hT;cases hT
   |some i=>
    rw[hi]at hT
    cases hT
    refine⟨.pointer (some ⟨b,off+z.toNat*i.size,none⟩),?_,b,hb,rfl⟩
    simp[execOp,Instr.indexAt,asIntOf,hv,hz,run_underlying hu,h0,h1,sizeOf,typeInfo,hi,Instr.sureAddr,Gb]
theorem MF{x y:Operand}{T len E:Nat}{k:IntKind}{z:Int}{base:Value}(hT:oy P T=some (len,E,1))(hx:Lk Γ δ ρ x (DW base 0))(hy:Lk Γ δ ρ y (CW (.int k z)))(h0:0≤z)(h1:z<len):
  OpOK P n ops Γ ρ δ τ ⟨some d,.indexAddr T x y,ty,pos,af,none⟩ .no (.c (DW base z.toNat)) ET:=Ut hT hx hy h0 h1 (by omega)
end ops
theorem E0{g:Vl}{Γ:D2}{δ:DK}{ρ:DU}:Fy g Γ δ ρ []:= .nil
theorem E1{g:Vl}{Γ:D2}{δ:DK}{ρ:DU}(a0:Nat){p0:SP}(h:Et g δ ρ a0=some p0):Fy g Γ δ ρ ((a0,p0)::[]):=by
 exact .cons _ h .nil
theorem E2{g:Vl}{Γ:D2}{δ:DK}{ρ:DU}(a0 a1:Nat){p0 p1:SP}(h:(Et g δ ρ a0,Et g δ ρ a1)=(some p0,some p1)):Fy g Γ δ ρ ((a0,p0)::(a1,p1)::[]):=by
 simp only[Ai]at h
 obtain⟨h0,h1⟩:=h
 exact .cons _ h0<| .cons _ h1<| .nil
theorem E3{g:Vl}{Γ:D2}{δ:DK}{ρ:DU}(a0 a1 a2:Nat){p0 p1 p2:SP}(h:(Et g δ ρ a0,Et g δ ρ a1,Et g δ ρ a2)=(some p0,some p1,some p2)):Fy g Γ δ ρ ((a0,p0)::(a1,p1)::(a2,p2)::[]):=by
 simp only[Ai]at h
 obtain⟨h0,h1,h2⟩:=h
 exact .cons _ h0<| .cons _ h1<| .cons _ h2<| .nil
theorem E4{g:Vl}{Γ:D2}{δ:DK}{ρ:DU}(a0 a1 a2 a3:Nat){p0 p1 p2 p3:SP}(h:(Et g δ ρ a0,Et g δ ρ a1,Et g δ ρ a2,Et g δ ρ a3)=(some p0,some p1,some p2,some p3)):Fy g Γ δ ρ ((a0,p0)::(a1,p1)::(a2,p2)::(a3,p3)::[]):=by
 simp only[Ai]at h
 obtain⟨h0,h1,h2,h3⟩:=h
 exact .cons _ h0<| .cons _ h1<| .cons _ h2<| .cons _ h3<| .nil
theorem E5{g:Vl}{Γ:D2}{δ:DK}{ρ:DU}(a0 a1 a2 a3 a4:Nat){p0 p1 p2 p3 p4:SP}(h:(Et g δ ρ a0,Et g δ ρ a1,Et g δ ρ a2,Et g δ ρ a3,Et g δ ρ a4)=(some p0,some p1,some p2,some p3,some p4)):Fy g Γ δ ρ ((a0,p0)::(a1,p1)::(a2,p2)::(a3,p3)::(a4,p4)::[]):=by
 simp only[Ai]at h
 obtain⟨h0,h1,h2,h3,h4⟩:=h
 exact .cons _ h0<| .cons _ h1<| .cons _ h2<| .cons _ h3<| .cons _ h4<| .nil
theorem E6{g:Vl}{Γ:D2}{δ:DK}{ρ:DU}(a0 a1 a2 a3 a4 a5:Nat){p0 p1 p2 p3 p4 p5:SP}(h:(Et g δ ρ a0,Et g δ ρ a1,Et g δ ρ a2,Et g δ ρ a3,Et g δ ρ a4,Et g δ ρ a5)=(some p0,some p1,some p2,some p3,some p4,some p5)):Fy g Γ δ ρ ((a0,p0)::(a1,p1)::(a2,p2)::(a3,p3)::(a4,p4)::(a5,p5)::[]):=by
 simp only[Ai]at h
 obtain⟨h0,h1,h2,h3,h4,h5⟩:=h
 exact .cons _ h0<| .cons _ h1<| .cons _ h2<| .cons _ h3<| .cons _ h4<| .cons _ h5<| .nil
theorem E7{g:Vl}{Γ:D2}{δ:DK}{ρ:DU}(a0 a1 a2 a3 a4 a5 a6:Nat){p0 p1 p2 p3 p4 p5 p6:SP}(h:(Et g δ ρ a0,Et g δ ρ a1,Et g δ ρ a2,Et g δ ρ a3,Et g δ ρ a4,Et g δ ρ a5,Et g δ ρ a6)=(some p0,some p1,some p2,some p3,some p4,some p5,some p6)):Fy g Γ δ ρ ((a0,p0)::(a1,p1)::(a2,p2)::(a3,p3)::(a4,p4)::(a5,p5)::(a6,p6)::[]):=by
 simp only[Ai]at h
 obtain⟨h0,h1,h2,h3,h4,h5,h6⟩:=h
 exact .cons _ h0<| .cons _ h1<| .cons _ h2<| .cons _ h3<| .cons _ h4<| .cons _ h5<| .cons _ h6<| .nil
theorem E8{g:Vl}{Γ:D2}{δ:DK}{ρ:DU}(a0 a1 a2 a3 a4 a5 a6 a7:Nat){p0 p1 p2 p3 p4 p5 p6 p7:SP}(h:(Et g δ ρ a0,Et g δ ρ a1,Et g δ ρ a2,Et g δ ρ a3,Et g δ ρ a4,Et g δ ρ a5,Et g δ ρ a6,Et g δ ρ a7)=(some p0,some p1,some p2,some p3,some p4,some p5,some p6,some p7)):Fy g Γ δ ρ ((a0,p0)::(a1,p1)::(a2,p2)::(a3,p3)::(a4,p4)::(a5,p5)::(a6,p6)::(a7,p7)::[]):=by
 simp only[Ai]at h
 obtain⟨h0,h1,h2,h3,h4,h5,h6,h7⟩:=h
 exact .cons _ h0<| .cons _ h1<| .cons _ h2<| .cons _ h3<| .cons _ h4<| .cons _ h5<| .cons _ h6<| .cons _ h7<| .nil
theorem E9{g:Vl}{Γ:D2}{δ:DK}{ρ:DU}(a0 a1 a2 a3 a4 a5 a6 a7 a8:Nat){p0 p1 p2 p3 p4 p5 p6 p7 p8:SP}(h:(Et g δ ρ a0,Et g δ ρ a1,Et g δ ρ a2,Et g δ ρ a3,Et g δ ρ a4,Et g δ ρ a5,Et g δ ρ a6,Et g δ ρ a7,Et g δ ρ a8)=(some p0,some p1,some p2,some p3,some p4,some p5,some p6,some p7,some p8)):Fy g Γ δ ρ ((a0,p0)::(a1,p1)::(a2,p2)::(a3,p3)::(a4,p4)::(a5,p5)::(a6,p6)::(a7,p7)::(a8,p8)::[]):=by
 simp only[Ai]at h
 obtain⟨h0,h1,h2,h3,h4,h5,h6,h7,h8⟩:=h
 exact .cons _ h0<| .cons _ h1<| .cons _ h2<| .cons _ h3<| .cons _ h4<| .cons _ h5<| .cons _ h6<| .cons _ h7<| .cons _ h8<| .nil
theorem I4{g:Vl}{Γ:D2}{δ:DK}{ρ:DU}(a0 a1 a2 a3 a4 a5 a6 a7 a8 a9:Nat){p0 p1 p2 p3 p4 p5 p6 p7 p8 p9:SP}(h:(Et g δ ρ a0,Et g δ ρ a1,Et g δ ρ a2,Et g δ ρ a3,Et g δ ρ a4,Et g δ ρ a5,Et g δ ρ a6,Et g δ ρ a7,Et g δ ρ a8,Et g δ ρ a9)=(some p0,some p1,some p2,some p3,some p4,some p5,some p6,some p7,some p8,some p9)):Fy g Γ δ ρ ((a0,p0)::(a1,p1)::(a2,p2)::(a3,p3)::(a4,p4)::(a5,p5)::(a6,p6)::(a7,p7)::(a8,p8)::(a9,p9)::[]):=by
 simp only[Ai]at h
 obtain⟨h0,h1,h2,h3,h4,h5,h6,h7,h8,h9⟩:=h
 exact .cons _ h0<| .cons _ h1<| .cons _ h2<| .cons _ h3<| .cons _ h4<| .cons _ h5<| .cons _ h6<| .cons _ h7<| .cons _ h8<| .cons _ h9<| .nil
theorem Ec{g:Vl}{Γ:D2}{δ:DK}{ρ ρ':DU}(a0 a1 a2 a3 a4 a5 a6 a7 a8 a9:Nat){p0 p1 p2 p3 p4 p5 p6 p7 p8 p9:SP}(h:(Et g δ ρ a0,Et g δ ρ a1,Et g δ ρ a2,Et g δ ρ a3,Et g δ ρ a4,Et g δ ρ a5,Et g δ ρ a6,Et g δ ρ a7,Et g δ ρ a8,Et g δ ρ a9)=(some p0,some p1,some p2,some p3,some p4,some p5,some p6,some p7,some p8,some p9))(hr:Fy g Γ δ ρ ρ'):Fy g Γ δ ρ ((a0,p0)::(a1,p1)::(a2,p2)::(a3,p3)::(a4,p4)::(a5,p5)::(a6,p6)::(a7,p7)::(a8,p8)::(a9,p9)::ρ'):=by
 simp only[Ai]at h
 obtain⟨h0,h1,h2,h3,h4,h5,h6,h7,h8,h9⟩:=h
 exact .cons _ h0<| .cons _ h1<| .cons _ h2<| .cons _ h3<| .cons _ h4<| .cons _ h5<| .cons _ h6<| .cons _ h7<| .cons _ h8<| .cons _ h9<|hr
theorem F1{g:Vl}{Γ:D2}{δ:DK}{ρ ρ':DU}(a0:Nat){p0:SP}(h:Et g δ ρ a0=some p0)(hr:Fy g Γ δ ρ ρ'):Fy g Γ δ ρ ((a0,p0)::ρ'):=by
 exact .cons _ h hr
theorem F3{g:Vl}{Γ:D2}{δ:DK}{ρ ρ':DU}(a0 a1 a2:Nat){p0 p1 p2:SP}(h:(Et g δ ρ a0,Et g δ ρ a1,Et g δ ρ a2)=(some p0,some p1,some p2))(hr:Fy g Γ δ ρ ρ'):Fy g Γ δ ρ ((a0,p0)::(a1,p1)::(a2,p2)::ρ'):=by
 simp only[Ai]at h
 obtain⟨h0,h1,h2⟩:=h
 exact .cons _ h0<| .cons _ h1<| .cons _ h2<|hr
theorem R0{g:Vl}{τ:List VR}: ∃ ks,Fx ks=true∧GE g τ ks []:=⟨[],rfl,.nil⟩
theorem R1{g:Vl}{τ:List VR}(a0:Nat){p0:Res}(h:(Fx [a0],EX g (nth τ a0))=(true,some p0)): ∃ ks,Fx ks=true∧GE g τ ks [p0]:=by
 simp only[Ai]at h
 obtain⟨hk,h0⟩:=h
 exact⟨_,hk,.cons _ h0<| .nil⟩
theorem R2{g:Vl}{τ:List VR}(a0 a1:Nat){p0 p1:Res}(h:(Fx [a0,a1],EX g (nth τ a0),EX g (nth τ a1))=(true,some p0,some p1)): ∃ ks,Fx ks=true∧GE g τ ks [p0,p1]:=by
 simp only[Ai]at h
 obtain⟨hk,h0,h1⟩:=h
 exact⟨_,hk,.cons _ h0<| .cons _ h1<| .nil⟩
theorem R3{g:Vl}{τ:List VR}(a0 a1 a2:Nat){p0 p1 p2:Res}(h:(Fx [a0,a1,a2],EX g (nth τ a0),EX g (nth τ a1),EX g (nth τ a2))=(true,some p0,some p1,some p2)): ∃ ks,Fx ks=true∧GE g τ ks [p0,p1,p2]:=by
 simp only[Ai]at h
 obtain⟨hk,h0,h1,h2⟩:=h
 exact⟨_,hk,.cons _ h0<| .cons _ h1<| .cons _ h2<| .nil⟩
theorem R4{g:Vl}{τ:List VR}(a0 a1 a2 a3:Nat){p0 p1 p2 p3:Res}(h:(Fx [a0,a1,a2,a3],EX g (nth τ a0),EX g (nth τ a1),EX g (nth τ a2),EX g (nth τ a3))=(true,some p0,some p1,some p2,some p3)): ∃ ks,Fx ks=true∧GE g τ ks [p0,p1,p2,p3]:=by
 simp only[Ai]at h
 obtain⟨hk,h0,h1,h2,h3⟩:=h
 exact⟨_,hk,.cons _ h0<| .cons _ h1<| .cons _ h2<| .cons _ h3<| .nil⟩
theorem R5{g:Vl}{τ:List VR}(a0 a1 a2 a3 a4:Nat){p0 p1 p2 p3 p4:Res}(h:(Fx [a0,a1,a2,a3,a4],EX g (nth τ a0),EX g (nth τ a1),EX g (nth τ a2),EX g (nth τ a3),EX g (nth τ a4))=(true,some p0,some p1,some p2,some p3,some p4)): ∃ ks,Fx ks=true∧GE g τ ks [p0,p1,p2,p3,p4]:=by
 simp only[Ai]at h
 obtain⟨hk,h0,h1,h2,h3,h4⟩:=h
 exact⟨_,hk,.cons _ h0<| .cons _ h1<| .cons _ h2<| .cons _ h3<| .cons _ h4<| .nil⟩
theorem R6{g:Vl}{τ:List VR}(a0 a1 a2 a3 a4 a5:Nat){p0 p1 p2 p3 p4 p5:Res}(h:(Fx [a0,a1,a2,a3,a4,a5],EX g (nth τ a0),EX g (nth τ a1),EX g (nth τ a2),EX g (nth τ a3),EX g (nth τ a4),EX g (nth τ a5))=(true,some p0,some p1,some p2,some p3,some p4,some p5)): ∃ ks,Fx ks=true∧GE g τ ks [p0,p1,p2,p3,p4,p5]:=by
 simp only[Ai]at h
 obtain⟨hk,h0,h1,h2,h3,h4,h5⟩:=h
 exact⟨_,hk,.cons _ h0<| .cons _ h1<| .cons _ h2<| .cons _ h3<| .cons _ h4<| .cons _ h5<| .nil⟩
theorem R7{g:Vl}{τ:List VR}(a0 a1 a2 a3 a4 a5 a6:Nat){p0 p1 p2 p3 p4 p5 p6:Res}(h:(Fx [a0,a1,a2,a3,a4,a5,a6],EX g (nth τ a0),EX g (nth τ a1),EX g (nth τ a2),EX g (nth τ a3),EX g (nth τ a4),EX g (nth τ a5),EX g (nth τ a6))=(true,some p0,some p1,some p2,some p3,some p4,some p5,some p6)): ∃ ks,Fx ks=true∧GE g τ ks [p0,p1,p2,p3,p4,p5,p6]:=by
 simp only[Ai]at h
 obtain⟨hk,h0,h1,h2,h3,h4,h5,h6⟩:=h
 exact⟨_,hk,.cons _ h0<| .cons _ h1<| .cons _ h2<| .cons _ h3<| .cons _ h4<| .cons _ h5<| .cons _ h6<| .nil⟩
theorem R8{g:Vl}{τ:List VR}(a0 a1 a2 a3 a4 a5 a6 a7:Nat){p0 p1 p2 p3 p4 p5 p6 p7:Res}(h:(Fx [a0,a1,a2,a3,a4,a5,a6,a7],EX g (nth τ a0),EX g (nth τ a1),EX g (nth τ a2),EX g (nth τ a3),EX g (nth τ a4),EX g (nth τ a5),EX g (nth τ a6),EX g (nth τ a7))=(true,some p0,some p1,some p2,some p3,some p4,some p5,some p6,some p7)): ∃ ks,Fx ks=true∧GE g τ ks [p0,p1,p2,p3,p4,p5,p6,p7]:=by
 simp only[Ai]at h
 obtain⟨hk,h0,h1,h2,h3,h4,h5,h6,h7⟩:=h
 exact⟨_,hk,.cons _ h0<| .cons _ h1<| .cons _ h2<| .cons _ h3<| .cons _ h4<| .cons _ h5<| .cons _ h6<| .cons _ h7<| .nil⟩
theorem Es{X:Cx}{Γ:D2}{ρ ρ':DU}{σ σ':List Res}(hE: ∀ g,Fy g Γ [] ρ ρ')(hR: ∀ g,∃ ks,Fx ks=true∧GE g (FC σ) ks σ'):To X Γ ρ σ Γ ρ' σ':=fun a c hs=>by
 obtain⟨ks,hk,hq0⟩:=hR (vl a)
 obtain⟨obs,hown,hres⟩:=hs.own
 refine⟨c,rfl,hs.size,hs.defers,hs.facts,fun t p hp=>?_,Oa obs ks,hown.pick hk,fun j r hr=>?_⟩
 ·obtain⟨q,hq,hh⟩:=hE (vl a) t p hp
  simp only[Et]at hq
  exact hh _ _ hs.facts (hs.env t q hq)
 ·obtain⟨k,q,hkj,hq,hh⟩:=(hq0).spec j r hr
  rw[Rc,Hy]at hq
  cases hv:nth σ k with
  |none=>rw[hv]at hq;cases hq
  |some e=>
   rw[hv]at hq
   cases hq
   simp only[Oa,hkj,AL,Cc]
   exact hh _ _ (hres k e hv)
theorem nx{X:Cx}{Γ:D2}{ρ ρ':DU}{δ:DK}{τ:List VR}{σ':List Res}{g:Vl}{K:Act→World→Prop}(hE:Fy g Γ δ ρ ρ')(hR: ∃ ks,Fx ks=true∧GE g τ ks σ')(h:JN X Γ ρ' σ' K):Next X Γ ρ δ τ g K:=by
 obtain⟨ks,hk,hr⟩:=hR
 exact⟨ρ',σ',ks,hk,hE,hr,h⟩
theorem zV{X:Cx}{Γ:D2}{ρ:DU}{σ:List Res}{id:Nat}{l:List Oper}{y:Code}{Q:Exit→Act→World→Prop}{is:List Ei}{δ:DK}{τ:List VR}(hs:Steps X.P X.n l.toArray Γ ρ [] (FC σ) l is δ τ)(hc:PE false X.n l is σ.length []=true)(h: ∀ g,Next X Γ ρ δ τ g (Exit.then (fun a w=>y.wp X.P Q a w) Q .normal)):J X Γ ρ σ (.seq (.region id l.toArray false) y) Q:=zF (zG [] hs ff hc h)
theorem zW{X:Cx}{Γ:D2}{ρ:DU}{σ:List Res}{id:Nat}{l:List Oper}{y:Code}{Q:Exit→Act→World→Prop}{is:List Ei}{δ:DK}{τ:List VR}(hs:Steps X.P X.n l.toArray Γ ρ [] (FC σ) l is δ τ)(hc:PE false X.n l is σ.length []=true)(h: ∀ g,Next X Γ ρ δ τ g (Exit.then (fun a w=>y.wp X.P Q a w) Q .normal)):JN X Γ ρ σ (Exit.then (fun a w=>(Code.seq (.region id l.toArray false) y).wp X.P Q a w) Q .normal):=zC (zF (zG [] hs ff hc h))
theorem Steps.m{P:Program}{n:Nat}{ops:Array Oper}{Γ:D2}{ρ:DU}{δ δ':DK}{τ τ':List VR}{l:List Oper}{is:List Ei}{d t:Nat}{p:SP}{ty:TypeId}{pos:String}{af:Array Edge}(h:DA δ ρ t=some (.c p))(hr:Steps P n ops Γ ρ (HR (some d) (.c p) δ) (KG .no ET τ) l is δ' τ'):Steps P n ops Γ ρ δ τ (⟨some d,.move (.tmp t),ty,pos,af,none⟩::l) (⟨.no,.c p,ET,none⟩::is) δ' τ':= .n (zA (.t h)) hr
theorem Steps.a{P:Program}{n:Nat}{ops:Array Oper}{Γ:D2}{ρ:DU}{δ δ':DK}{τ τ':List VR}{l:List Oper}{is:List Ei}{d t:Nat}{p:SP}{ty:TypeId}{pos:String}{af:Array Edge}(h:DA δ ρ t=some (.c p))(hr:Steps P n ops Γ ρ (HR (some d) (.c p) δ) (KG .no ET τ) l is δ' τ'):Steps P n ops Γ ρ δ τ (⟨some d,.assign (.tmp t),ty,pos,af,none⟩::l) (⟨.no,.c p,ET,none⟩::is) δ' τ':= .n (zB (.t h)) hr
theorem Steps.b{P:Program}{n:Nat}{ops:Array Oper}{Γ:D2}{ρ:DU}{δ δ':DK}{τ τ':List VR}{l:List Oper}{is:List Ei}{d:Nat}{ty:TypeId}{pos:String}{af:Array Edge}{u:Value}(h:u.oneCell'=true)(hr:Steps P n ops Γ ρ (HR (some d) (.c (CW u)) δ) (KG .no ET τ) l is δ' τ'):Steps P n ops Γ ρ δ τ (⟨some d,.assign (.const u),ty,pos,af,none⟩::l) (⟨.no,.c (CW u),ET,none⟩::is) δ' τ':= .n (zB (.k h)) hr
theorem A1{Γ:D2}{δ:DK}{ρ:DU}{a0:Nat}{p0:SP}(h:DA δ ρ a0=some (.c p0)):Sf Γ δ ρ [.tmp a0] [p0]:=by
 exact⟨.t h,trivial⟩
theorem A2{Γ:D2}{δ:DK}{ρ:DU}{a0 a1:Nat}{p0 p1:SP}(h:(DA δ ρ a0,DA δ ρ a1)=(some (.c p0),some (.c p1))):Sf Γ δ ρ [.tmp a0,.tmp a1] [p0,p1]:=by
 simp only[Ai]at h
 obtain⟨h0,h1⟩:=h
 exact⟨.t h0,.t h1,trivial⟩
theorem A3{Γ:D2}{δ:DK}{ρ:DU}{a0 a1 a2:Nat}{p0 p1 p2:SP}(h:(DA δ ρ a0,DA δ ρ a1,DA δ ρ a2)=(some (.c p0),some (.c p1),some (.c p2))):Sf Γ δ ρ [.tmp a0,.tmp a1,.tmp a2] [p0,p1,p2]:=by
 simp only[Ai]at h
 obtain⟨h0,h1,h2⟩:=h
 exact⟨.t h0,.t h1,.t h2,trivial⟩
theorem A4{Γ:D2}{δ:DK}{ρ:DU}{a0 a1 a2 a3:Nat}{p0 p1 p2 p3:SP}(h:(DA δ ρ a0,DA δ ρ a1,DA δ ρ a2,DA δ ρ a3)=(some (.c p0),some (.c p1),some (.c p2),some (.c p3))):Sf Γ δ ρ [.tmp a0,.tmp a1,.tmp a2,.tmp a3] [p0,p1,p2,p3]:=by
 simp only[Ai]at h
 obtain⟨h0,h1,h2,h3⟩:=h
 exact⟨.t h0,.t h1,.t h2,.t h3,trivial⟩
theorem A6{Γ:D2}{δ:DK}{ρ:DU}{a0 a1 a2 a3 a4 a5:Nat}{p0 p1 p2 p3 p4 p5:SP}(h:(DA δ ρ a0,DA δ ρ a1,DA δ ρ a2,DA δ ρ a3,DA δ ρ a4,DA δ ρ a5)=(some (.c p0),some (.c p1),some (.c p2),some (.c p3),some (.c p4),some (.c p5))):Sf Γ δ ρ [.tmp a0,.tmp a1,.tmp a2,.tmp a3,.tmp a4,.tmp a5] [p0,p1,p2,p3,p4,p5]:=by
 simp only[Ai]at h
 obtain⟨h0,h1,h2,h3,h4,h5⟩:=h
 exact⟨.t h0,.t h1,.t h2,.t h3,.t h4,.t h5,trivial⟩
theorem DO{P:Program}{Γ:D2}{ρ:DU}{σ:List Res}{fn:Func}{n:Nat}{c0:EW}{R:SP}{a0:Nat}{p0:SP}(h:(fn.results.toList,DA [] ρ a0)=([.tmp a0],some (.c p0)))(hR:Sb Γ p0 R):JN ⟨P,n,c0,fun _=>False,[]⟩ Γ ρ σ (bodyPost P fn (Yj c0 R) .ret):=by
 simp only[Ai]at h
 obtain⟨h,h0⟩:=h
 exact zQ (by rw[h];exact .cons (.tmp (.t h0))<| .nil) (zM (yD zL) hR)
theorem Lt{P:Program}{Γ:D2}{ρ:DU}{σ:List Res}{fn:Func}{n:Nat}{c0:EW}{R:SP}{a0 a1:Nat}{p0 p1:SP}(h:(fn.results.toList,DA [] ρ a0,DA [] ρ a1)=([.tmp a0,.tmp a1],some (.c p0),some (.c p1)))(hR:Sb Γ (EP [p0,p1]) R):JN ⟨P,n,c0,fun _=>False,[]⟩ Γ ρ σ (bodyPost P fn (Yj c0 R) .ret):=by
 simp only[Ai]at h
 obtain⟨h,h0,h1⟩:=h
 exact zQ (by rw[h];exact .cons (.tmp (.t h0))<| .cons (.tmp (.t h1))<| .nil) (zM (Dk (.cons zL<| .cons zL<| .nil)) hR)
theorem zq{P:Program}{Γ:D2}{ρ:DU}{σ:List Res}{fn:Func}{n:Nat}{c0:EW}{R:SP}{a0 a1 a2:Nat}{p0 p1 p2:SP}(h:(fn.results.toList,DA [] ρ a0,DA [] ρ a1,DA [] ρ a2)=([.tmp a0,.tmp a1,.tmp a2],some (.c p0),some (.c p1),some (.c p2)))(hR:Sb Γ (EP [p0,p1,p2]) R):JN ⟨P,n,c0,fun _=>False,[]⟩ Γ ρ σ (bodyPost P fn (Yj c0 R) .ret):=by
 simp only[Ai]at h
 obtain⟨h,h0,h1,h2⟩:=h
 exact zQ (by rw[h];exact .cons (.tmp (.t h0))<| .cons (.tmp (.t h1))<| .cons (.tmp (.t h2))<| .nil) (zM (Dk (.cons zL<| .cons zL<| .cons zL<| .nil)) hR)
theorem wo{z:Int}(h: -9223372036854775808≤z∧z≤9223372036854775807):IntKind.i64.wrap z=z:=zO h.1 h.2
theorem zh{X:Cx}{Γ:D2}{ρ:DU}{σ:List Res}{Q:Exit→Act→World→Prop}{b:Bool}{t:Nat}{thn els:Code}(h:DA [] ρ t=some (.c (CW (.bool b))))(h1:b=true→J X Γ ρ σ thn Q)(h2:b=false→J X Γ ρ σ els Q):J X Γ ρ σ (.cond (.tmp t) thn els) Q:=zH (zK (.t h)) h1 h2
theorem CY{X:Cx}{Γ:D2}{ρ ρ':DU}{δ:DK}{τ:List VR}{g:Vl}{K:Act→World→Prop}(hE:Fy g Γ δ ρ ρ')(h:JN X Γ ρ' [] K):Next X Γ ρ δ τ g K:=nx hE R0 h
theorem CZ{X:Cx}{Γ:D2}{ρ ρ':DU}{δ:DK}{τ:List VR}{r:Res}{g:Vl}{K:Act→World→Prop}(a:Nat)(hE:Fy g Γ δ ρ ρ')(hR:(Fx [a],EX g (nth τ a))=(true,some r))(h:JN X Γ ρ' [r] K):Next X Γ ρ δ τ g K:=nx hE (R1 a hR) h
theorem Steps.mm{P:Program}{n:Nat}{ops:Array Oper}{Γ:D2}{ρ:DU}{δ δ':DK}{τ τ':List VR}{l:List Oper}{is:List Ei}{d t d2 t2:Nat}{p p2:SP}{ty ty2:TypeId}{pos pos2:String}{af af2:Array Edge}(h:(DA δ ρ t,DA (HR (some d) (.c p) δ) ρ t2)=(some (.c p),some (.c p2)))(hr:Steps P n ops Γ ρ (HR (some d2) (.c p2) (HR (some d) (.c p) δ)) (KG .no ET (KG .no ET τ)) l is δ' τ'):Steps P n ops Γ ρ δ τ (⟨some d,.move (.tmp t),ty,pos,af,none⟩::⟨some d2,.move (.tmp t2),ty2,pos2,af2,none⟩::l) (⟨.no,.c p,ET,none⟩::⟨.no,.c p2,ET,none⟩::is) δ' τ':=by
 simp only[Ai]at h
 exact .m h.1 (.m h.2 hr)
theorem Ie.g{Γ:D2}{δ:DK}{ρ:DU}{place:Nat→Option (Nat×Nat)}{i t off size:Nat}{rest:List (Nat×Operand)}{p:SP}{l cs cs1 out:List SP}(hc:F8 p l)(h:(place i,DA δ ρ t,Nat.beq l.length size,PR off l cs,Nat.ble (off+l.length) cs.length)=(some (off,size),some (.c p),true,some cs1,true))(hr:Ie Γ δ ρ place rest cs1 out):Ie Γ δ ρ place ((i,.tmp t)::rest) cs out:=by
 simp only[Ai]at h
 obtain⟨h1,h2,h3,h4,h5⟩:=h
 exact .cons h1 (.t h2) hc h3 (yU h4 (A8 h5)) hr
theorem Dd{X:Cx}{Γ:D2}{ρ:DU}{σ:List Res}{Q:Exit→Act→World→Prop}{x y:Code}(h:J X Γ ρ σ x (Exit.then (fun a w=>y.wp X.P Q a w) Q)):JN X Γ ρ σ (Exit.then (fun a w=>(Code.seq x y).wp X.P Q a w) Q .normal):=zC (zF h)
theorem De{X:Cx}{Γ:D2}{ρ:DU}{σ:List Res}{Q:Exit→Act→World→Prop}(h:JN X Γ ρ σ (Q .ret)):JN X Γ ρ σ (Exit.then (fun a w=>Code.ret.wp X.P Q a w) Q .normal):=zC (yF h)
theorem DS{X:Cx}{Γ:D2}{ρ:DU}{σ:List Res}{k:Code}{Q:Exit→Act→World→Prop}(h:J X Γ ρ (σ++List.replicate 1 emp) k Q):J X Γ ρ σ k Q:=yN (To.emps 1) h
theorem Steps.z{P:Program}{n:Nat}{ops:Array Oper}{Γ:D2}{ρ:DU}{δ:DK}{τ:List VR}{d t:Nat}{p:SP}{ty:TypeId}{pos:String}{af:Array Edge}(h:DA δ ρ t=some (.c p)):Steps P n ops Γ ρ δ τ [⟨some d,.assign (.tmp t),ty,pos,af,none⟩] [⟨.no,.c p,ET,none⟩] (HR (some d) (.c p) δ) (KG .no ET τ):= .a h .nil
end Go.Bn
