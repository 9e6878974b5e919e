/-
 One state, one leg, by the numbers.
-/
import Derived.Test.YtgfanjebfjeneaaGreatDoorZqM10
import Derived.Test.YtgfanjebfjeneaaGreatDoorZqM2
import Derived.WalkKit
import Derived.ProofKit
import Derived.OpenShut
import Derived.ChangeOld
import Derived.Below
import Derived.SizedLaws
import Derived.Carry
import Derived.Test.YtgfanjebfjeneaaGreatDoorRows
import Derived.Test.YtgfanjebfjeneaaGreatDoorZqM1
import Derived.Test.YtgfanjebfjeneaaGreatDoorProg
import Derived.KernelRfl
set_option linter.unusedVariables false
set_option linter.unusedSimpArgs false
set_option maxRecDepth 20000
set_option maxHeartbeats 1000000
namespace Go.Bn
open Go
theorem m7{p:Nat}(h:0<Hc p):KC (1:Int) [p]=true:=by
 unfold KC
 refine decide_eq_true (Zy fun c hc=>?_)
 have hc:c=0:=by have:c<1:=hc;omega
 subst hc
 exact h
theorem YN{x p:Nat}(hx:DF x=true)(hc:Gs 1 1 [p]=0)(hs:Gw 1 1 [p]=true)(h:0<Hc p):HK ⟨[x],1,1,[p]⟩=0:=
 J1.2 ⟨hc,rfl,rfl,by simp[hx],hs,m7 h⟩
def OF:I5:=⟨[0],1,1,[0x4010000000000000]⟩
def Y8:I5:=⟨[0],1,1,[0x4014000000000000]⟩
def gP:I5:=⟨[0x4014000000000000],1,1,[0x4004000000000000]⟩
def Qu:List H9:=[⟨1,1,0x3ff0000000000000,0⟩]
def cS:Sh:=⟨1000000,1,1,[0x3ff0000000000000],[0x4014000000000000],[0x4024000000000000]⟩
def Vd:Hm:=⟨1,1,[0x3ff0000000000000],Y8,gP⟩
theorem Yo:HK OF=0:=YN (by decide+kernel) (by decide+kernel) (by decide+kernel) (by decide+kernel)
theorem Yp:HK Y8=0:=YN (by decide+kernel) (by decide+kernel) (by decide+kernel) (by decide+kernel)
theorem uw:HK gP=0:=YN (by decide+kernel) (by decide+kernel) (by decide+kernel) (by decide+kernel)
theorem iB:IY H7 Qu 1000000=⟨1,1,[0x3ff0000000000000],0⟩:=MR.eq4 (by decide+kernel)
theorem xZ:IY Ea Qu 1000000=⟨1,1,[0x3ff0000000000000],0⟩:=MR.eq4 (by decide+kernel)
theorem bk{x p:List Nat}{n:Int}{o:Bool}(ho:o=false)(hp:KC n p=true):IH o n x p=⟨⟨x,n,n,p⟩,0⟩:=by
 subst ho
 unfold IH
 rw[hp];rfl
theorem xY:MH OF 1 1 [0x3ff0000000000000] 1 1 [0x3ff0000000000000]=⟨Y8,0⟩:=by
 unfold MH
 rw[ED Yo,ED (by decide+kernel),ED (by decide+kernel),if_pos (by decide+kernel),ED rfl]
 have h1:prP (OF.x.length:Int) OF.a [0x3ff0000000000000] [0x3ff0000000000000]=Y8.a:=by decide+kernel
 have h2:(List.range OF.x.length).map (zo (OF.x.length:Int) [0x3ff0000000000000] OF.x)=Y8.x:=by decide+kernel
 rw[h1,h2]
 exact bk (by decide+kernel) (m7 (p:=0x4014000000000000) (by decide+kernel))
theorem iC:Lh OF Qu 1000000=⟨Y8,0⟩:=by
 unfold Lh
 rw[iB,xZ,ED Yo]
 show Sq 0 (Sq (if(1:Int)=(OF.x.length:Int)then 0 else 3) (Sq 0 (MH OF 1 1 [0x3ff0000000000000] 1 1 [0x3ff0000000000000])))=_
 rw[ED rfl,if_pos (show(1:Int)=(OF.x.length:Int)from rfl),ED rfl,ED rfl,xY]
theorem y5:IT Y8 [0x3ff0000000000000] 0x4014000000000000 0x4024000000000000=⟨gP,0⟩:=by
 unfold IT
 rw[ED (by unfold KD;rw[if_neg (by rw[Yp];decide)];decide+kernel),ED (by decide+kernel),ED (by decide+kernel)]
 have h1:u4 (Y8.x.length:Int) Y8.a [0x3ff0000000000000] 0x4014000000000000=gP.a:=by decide+kernel
 have h2:upV (Y8.x.length:Int) Y8.x Y8.a [0x3ff0000000000000] 0x4014000000000000 0x4024000000000000=gP.x:=by decide+kernel
 rw[h1,h2]
 exact bk (by decide+kernel) (m7 (p:=0x4004000000000000) (by decide+kernel))
theorem y6:Ii Y8 1 1 [0x3ff0000000000000] [0x4014000000000000] [0x4024000000000000]=⟨gP,0⟩:=by
 unfold Ii
 rw[ED Yp,ED (by decide+kernel),if_pos (by decide),ED rfl]
 show Gm Y8 1 [0x3ff0000000000000] [0x4014000000000000] [0x4024000000000000] 1=_
 rw[Ir rfl]
 have h:G6 1 [0x3ff0000000000000] ((0:Nat):Int)=[0x3ff0000000000000]:=by decide+kernel
 rw[h]
 exact y5
theorem Yq:fP OF Qu cS=⟨gP,0⟩:=by
 unfold fP gS
 show Ii (Lh OF Qu 1000000).s 1 1 [0x3ff0000000000000] [0x4014000000000000] [0x4024000000000000]=_
 rw[iC]
 exact y6
theorem uB:x5 OF Qu cS=Vd:=by
 unfold x5
 rw[Yq]
 unfold fO gS
 show(⟨(IY H7 Qu 1000000).r,(IY H7 Qu 1000000).c,(IY H7 Qu 1000000).a,(Lh OF Qu 1000000).s,gP⟩:Hm)=_
 rw[iB,iC]
 rfl
theorem uy:UJ OF Qu cS=0:=by
 unfold UJ
 rw[Yq]
 unfold fO gS
 show(if(IY H7 Qu 1000000).e≠0 then _ else if(Lh OF Qu 1000000).e≠0 then _ else(0:Int))=0
 rw[iB,iC]
 rfl
theorem iF:Ib OF Qu [cS] 1=⟨gP,[Vd],0⟩:=by
 rw[Jy (s:=OF) (ps:=Qu) (gs:=[cS]) (k:=0) rfl uy]
 show(⟨(fP OF Qu cS).s,[]++ [x5 OF Qu cS],0⟩:xP)=_
 rw[Yq,uB]
 rfl
theorem iE:Zl OF Qu [cS]=0:=by
 unfold Zl
 rw[if_neg (by rw[Yo];decide),if_neg (by decide)]
 show(Ib OF Qu [cS] 1).e=0
 rw[iF]
theorem uA:zY OF Qu [cS]=[Vd]:=by
 unfold zY
 rw[if_neg (by rw[iE];decide)]
 show(Ib OF Qu [cS] 1).l=_
 rw[iF]
theorem iD:Vb [Vd]=0:=by
 unfold Vb
 rw[if_neg (by decide)]
 show Y7 [Vd] 1=0
 rw[NY rfl]
 show YT Vd (-1)=0
 unfold YT
 rw[if_neg (by decide+kernel),if_neg (by decide),if_neg (by show ¬HK Y8≠0;rw[Yp];decide),if_neg (by show ¬HK gP≠0;rw[uw];decide),if_neg (by decide)]
theorem uC:smE [Vd]=0:=by
 rw[(Xz iD).1]
 show(F0 [Vd] (T7 [Vd]) 1).e=0
 rw[HF]
theorem uD:x6 [Vd]=[⟨gP,false⟩]:=by
 have h:(F0 [Vd] (T7 [Vd]) 1).e=0:=by rw[HF]
 rw[(Xz iD).2]
 show oz (F0 [Vd] (T7 [Vd]) 1)=_
 rw[VB h,HF]
 rfl
open Go Go.RowKit
def Y9(l:List SP)(cs:List Value)(w:World):Prop:= ∀ i p,nth l i=some p→ ∃ u,cs[i]? =some u∧u.oneCell'=true∧p.H u ⟨w,fun _=>False⟩
def TF(P:Program)(T:TypeId)(α:Type)(mk:α→List SP)(ok:α→Prop):Prop:=
 ∀ (H:Type) (enc:TypeId×Value→H) (w:World) (n:Nat) (cs:List Value) (d:DataW H) (ps:List MemPlace),DataW.trod enc P w 0 (fun _=>true) true n T cs=some (d,ps)→(∀ x,x∈DataW.weights P T d→x≤reachBytes)→
  ∃ a,ok a∧cs.length=P.cellsOf T∧(mk a).length=P.cellsOf T∧Y9 (mk a) cs w
section
variable {P:Program}
theorem Y9.one{p:SP}{u:Value}{w:World}(h1:u.oneCell'=true)(h:p.H u ⟨w,fun _=>False⟩):Y9 [p] [u] w:=fun i q hi=>by
 cases i with
 |zero=>simp only[nth,Ah]at hi;subst hi;exact⟨u,rfl,h1,h⟩
 |succ i=>simp[nth]at hi
theorem mo{T:TypeId}{k:IntKind}(hu:P.underlying T=some (.int k))(hc:P.cellsOf T=1):TF P T Int (fun z=>[CW (.int k z)]) (fun z=>(Lit.int k z).wf=true):=fun H enc w n cs d ps h _=>by
 obtain⟨z,h1,h2,h3⟩:=DataW.trod_int hu h
 subst h1
 exact⟨z,h3,hc.symm,hc.symm,Y9.one rfl ⟨rfl,rfl⟩⟩
theorem we{T:TypeId}(hu:P.underlying T=some (.int .u64))(hc:P.cellsOf T=1):TF P T Nat (fun b=>[XR b]) (fun b=>b<2^64):=fun H enc w n cs d ps h _=>by
 obtain⟨z,h1,h2,h3⟩:=DataW.trod_int hu h
 subst h1
 simp[Lit.wf]at h3
 have hz:((z.toNat:Nat):Int)=z∧z.toNat<2^64:=by
  simp only[IntKind.min,IntKind.max,IntKind.signed,IntKind.bits]at h3
  simp at h3
  omega
 exact⟨z.toNat,hz.2,hc.symm,hc.symm,Y9.one rfl ⟨by rw[hz.1],rfl⟩⟩
theorem LB{β:Type}{Q:Nat→β→Prop}: ∀ {n:Nat},(∀ i,i<n→ ∃ b,Q i b)→ ∃ xs:List β,xs.length=n∧ ∀ i b,xs[i]? =some b→Q i b
 |0,_=>⟨[],rfl,fun i b h=>by simp at h⟩
 |n+1,h=>by
  obtain⟨xs,h1,h2⟩:=LB (n:=n) fun i hi=>h i (by omega)
  obtain⟨b,hb⟩:=h n (by omega)
  refine⟨xs++ [b],by simp[h1],fun i b' hi=>?_⟩
  by_cases hin:i<n
  ·rw[AW (by omega)]at hi
   exact h2 i b' hi
  rw[Bp (by omega),h1]at hi
  have:i=n:=by
   have:=(AU.1 hi).1
   simp at this
   omega
  subst this
  simp at hi
  subst hi
  exact hb
theorem RD{β:Type}{mk:β→List SP}{es:Nat}(he:0<es): ∀ {xs:List β},(∀ b,b∈xs→(mk b).length=es)→ ∀ k p,nth (xs.flatMap mk) k=some p→ ∃ b,xs[k/es]? =some b∧nth (mk b) (k % es)=some p
 |[],_,k,p,h=>by simp[nth]at h
 |b::xs,hl,k,p,h=>by
  have hb:=hl b (by simp)
  rw[Dq,B8]at h
  by_cases hk:k<es
  ·rw[AW (by omega)]at h
   rw[Cn hk,BH hk]
   exact⟨b,rfl,by rw[Dq];exact h⟩
  rw[Bp (by omega),hb]at h
  obtain⟨b',h1,h2⟩:=RD he (xs:=xs) (fun x hx=>hl x (by simp[hx])) (k-es) p (by rw[Dq];exact h)
  have e1:k/es=(k-es)/es+1:=by rw[Nat.div_eq k es,if_pos ⟨he,by omega⟩]
  have e2:k % es=(k-es) % es:=by rw[Nat.mod_eq_sub_mod (by omega)]
  rw[e1,e2]
  exact⟨b',by simpa using h1,h2⟩
theorem JF{H:Type}{e:TypeId}{x:Nat}: ∀ {ds:List (DataW H)} {d:DataW H},d∈ds→x∈DataW.weights P e d→x∈DataW.weightsAll P e ds
 |d'::ds,d,hd,hx=>by
  rw[DataW.weightsAll]
  rcases AH.1 hd with rfl|hd
  ·exact B3 _ hx
  exact CM _ (JF hd hx)
theorem R9{β:Type}{mk:β→List SP}{es:Nat}: ∀ {xs:List β},(∀ b,b∈xs→(mk b).length=es)→(xs.flatMap mk).length=xs.length*es
 |[],_=>by simp
 |b::xs,h=>by
  rw[B8,As,h b (by simp),R9 (xs:=xs) fun x hx=>h x (by simp[hx])]
  rw[AG,AO,B5,Nat.add_comm]
theorem mq {T e : TypeId} {β : Type} {mk : β → List SP} {ok : β → Prop} (hu : P.underlying T = some (.slice e)) (hc : P.cellsOf T = 1) (h0 : 0 < P.cellsOf e) (hr : TF P e β mk ok) :
  TF P T (List β) (fun xs => [Mv xs.length (P.cellsOf e) (xs.flatMap mk)]) (fun xs => (∀ b, b ∈ xs → ok b) ∧ xs.length * P.bytesOf e ≤ reachBytes) := fun H enc w n cs d ps h hw => by
 rcases DataW.trod_slice hu h with ⟨h1, h2⟩ | ⟨a, len, cap, elems, rest, m, hm, h1, h2, _, hlc, hcm, hel, he, hsp, _⟩
 ·subst h1
  exact ⟨[], ⟨by simp, by simp⟩, hc.symm, hc.symm, Y9.one rfl ⟨by simp, .inl ⟨rfl, rfl⟩⟩⟩
 subst h1
 simp only [Ai] at h2
 obtain ⟨h2, _⟩ := h2
 subst h2
 have hws : ∀ x, x ∈ ((elems.map (·.1)).length + (rest.map (·.1)).length) * P.bytesOf e :: (DataW.weightsAll P e (elems.map (·.1)) ++ DataW.weightsAll P e (rest.map (·.1))) → x ≤ reachBytes := by
  intro x hx
  exact hw x (by rw [DataW.weights, hu]; exact hx)
 have hlen : len * P.bytesOf e ≤ reachBytes := by
  have := hws _ (C4)
  simp only [Az, hel] at this
  exact Ak (Au _ (Nat.le_add_right _ _)) this
 -- each element
 have each : ∀ i, i < len → ∃ b, ok b ∧ (mk b).length = P.cellsOf e ∧ ∃ ci : List Value, w.cells? 0 (a.add (i * P.cellsOf e)) (P.cellsOf e) = some ci ∧ ci.length = P.cellsOf e ∧ Y9 (mk b) ci w := by
  intro i hi
  have h3 := he i hi
  obtain ⟨y, hy⟩ : ∃ y, elems[i]? = some y := ⟨elems[i], Ag (by omega)⟩
  rw [hy, Option.bind_eq_some_iff] at h3
  obtain ⟨ci, h4, h5⟩ := h3
  obtain ⟨b, g1, g2, g3, g4⟩ := hr H enc w m ci y.1 y.2 h5 fun x hx => hws x (Bt _ (B3 _ (JF (List.mem_map.2 ⟨y, Bh hy, rfl⟩) hx)))
  exact ⟨b, g1, g3, ci, h4, g2, g4⟩
 obtain ⟨xs, hxl, hxs⟩ := LB each
 have hmem : ∀ b, b ∈ xs → ok b ∧ (mk b).length = P.cellsOf e := fun b hb => by
  obtain ⟨i, hi, e1⟩ := List.mem_iff_getElem.1 hb
  have := hxs i b (by rw [Ag hi, e1])
  exact ⟨this.1, this.2.1⟩
 refine ⟨xs, ⟨fun b hb => (hmem b hb).1, by rw [hxl]; exact hlen⟩, hc.symm, hc.symm, Y9.one rfl ⟨R9 fun b hb => (hmem b hb).2, .inr ⟨a, cap, by rw [hxl], by omega, hcm, ?_⟩⟩⟩
 rcases BN len with hz | hz
 ·exact .inl (by omega)
 right
 -- the block
 have cell : ∀ i j, i < len → j < P.cellsOf e → ∃ u, w.cell? ((a.add (i * P.cellsOf e)).add j) = some u := by
  intro i j hi hj
  obtain ⟨b, _, _, ci, h4, h5, _⟩ := each i hi
  obtain ⟨_, h6, h7⟩ := World.cells?_some h4
  exact ⟨ci[j], by rw [h7 j hj, Ag (by omega)]⟩
 obtain ⟨b0, off, spot⟩ := a
 have hspot : spot = none ∧ ∃ cur T' fz, w.heap[b0]? = some (.cells cur T' fz) := by
  obtain ⟨u, hu0⟩ := cell 0 0 hz h0
  simp [Addr.add, World.cell?] at hu0
  split at hu0
  ·rename_i c1 c2 c3 hh
   split at hu0
   ·cases hu0
   rename_i hs
   exact ⟨by simpa using hs, _, _, _, hh⟩
  cases hu0
 obtain ⟨hs, cur, T', fz, hheap⟩ := hspot
 subst hs
 refine ⟨b0, off, rfl, fun hm => hm.elim, cur, T', fz, hheap, fun k p hk => ?_⟩
 obtain ⟨b, g1, g2⟩ := RD h0 (fun b hb => (hmem b hb).2) k p hk
 have hi : k / P.cellsOf e < len := by
  have := (AU.1 g1).1
  omega
 have hj : k % P.cellsOf e < P.cellsOf e := Ap _ h0
 obtain ⟨_, _, ci, h4, h5, h6⟩ := hxs _ b g1
 obtain ⟨u, h7, h8, h9⟩ := h6 _ p g2
 obtain ⟨_, _, h10⟩ := World.cells?_some h4
 have h11 := h10 _ hj
 rw [h7, Gb, Gb] at h11
 refine ⟨u, ?_, h8, h9⟩
 simp only [World.cell?, hheap] at h11
 have e1 : off + k / P.cellsOf e * P.cellsOf e + k % P.cellsOf e = off + k := by rw [C6, Nat.div_add_mod']
 rw [e1] at h11
 simpa using h11
def oF(P:Program)(fs:List Field)(off:Nat)(α:Type)(mk:α→List SP)(ok:α→Prop):Prop:=
 ∀ (H:Type) (enc:TypeId×Value→H) (w:World) (n:Nat) (cs:List Value) (ds:List (DataW H)),off≤cs.length→ds.length=fs.length→
  (∀ (i:Nat) (f:Field),fs[i]? =some f→ ∃ y,DataW.trod enc P w 0 (fun _=>true) true n f.type ((cs.drop f.offset).take (P.cellsOf f.type))=some y∧ds[i]? =some y.1)→(∀ x,x∈DataW.weightsEach P (fs.map (·.type)) ds→x≤reachBytes)→
  ∃ a,ok a∧Y9 (mk a) (cs.drop off) w∧off+(mk a).length≤cs.length
theorem jl{off:Nat}:oF P [] off Unit (fun _=>[]) (fun _=>True):=fun H enc w n cs ds hl _ _ _=>⟨(),trivial,fun i p h=>by simp[nth]at h,by simpa using hl⟩
theorem NQ{f:Field}{fs:List Field}{off:Nat}{α β:Type}{mk:α→List SP}{ok:α→Prop}{mk':β→List SP}{ok':β→Prop}(ho:f.offset=off)(hr:TF P f.type α mk ok)(hrest:oF P fs (off+P.cellsOf f.type) β mk' ok'):
  oF P (f::fs) off (α×β) (fun x=>mk x.1++mk' x.2) (fun x=>ok x.1∧ok' x.2):=fun H enc w n cs ds hl hdl hf hw=>by
 match ds,hdl with
 |d::ds,hdl=>
  obtain⟨y,h1,h2⟩:=hf 0 f rfl
  simp at h2
  subst h2
  have hwe: ∀ x,x∈DataW.weights P f.type y.1++DataW.weightsEach P (fs.map (·.type)) ds→x≤reachBytes:=fun x hx=>hw x (by rw[Br,DataW.weightsEach];exact hx)
  rw[ho]at h1
  obtain⟨a,g1,g2,g3,g4⟩:=hr H enc w n _ y.1 y.2 h1 fun x hx=>hwe x (B3 _ hx)
  have hlen:off+P.cellsOf f.type≤cs.length:=by
   simp at g2;omega
  obtain⟨b,k1,k2,k3⟩:=hrest H enc w n cs ds hlen (by simpa using hdl) (fun i f' hi=>by
   have:=hf (i+1) f' (by simpa using hi)
   simpa using this) fun x hx=>hwe x (CM _ hx)
  refine⟨(a,b),⟨g1,k1⟩,fun i p hi=>?_,by simp[g3];omega⟩
  rw[Dq]at hi
  change (mk a++mk' b)[i]? =some p at hi
  by_cases hia:i<(mk a).length
  ·rw[AW hia]at hi
   obtain⟨u,q1,q2,q3⟩:=g4 i p (by rw[Dq];exact hi)
   refine⟨u,?_,q2,q3⟩
   rw[B9]at q1
   split at q1
   ·exact q1
   cases q1
  rw[Bp (by omega)]at hi
  obtain⟨u,q1,q2,q3⟩:=k2 (i-(mk a).length) p (by rw[Dq];exact hi)
  refine⟨u,?_,q2,q3⟩
  rw[AF]at q1⊢
  rw[←q1]
  congr 1
  omega
theorem Te{T:TypeId}{fs:List Field}{α:Type}{mk:α→List SP}{ok:α→Prop}(hu:P.underlying T=some (.struct fs.toArray))(hr:oF P fs 0 α mk ok)(hl: ∀ a,(mk a).length=P.cellsOf T):TF P T α mk ok:=fun H enc w n cs d ps h hw=>by
 obtain⟨xs,m,h1,h2,h3,h4,h5⟩:=DataW.trod_struct hu h
 simp only[Ai]at h2
 obtain⟨h2,_⟩:=h2
 subst h2
 obtain⟨a,g1,g2,g3⟩:=hr H enc w m cs (xs.map (·.1)) (A7 _) (by simpa using h4) (fun i f hi=>by
  have:=h5 i f (by simpa using hi)
  obtain⟨y,hy⟩: ∃ y,xs[i]? =some y:=⟨xs[i]'(by have:=(AU.1 hi).1;simp at h4;omega),Ag _⟩
  exact⟨y,by rw[this,hy],by simp[hy]⟩) fun x hx=>hw x (by rw[DataW.weights,hu];simpa using hx)
 exact⟨a,g1,h3,hl a,by simpa using g2⟩
theorem TF.re{T:TypeId}{α β:Type}{mk:α→List SP}{ok:α→Prop}{mk':β→List SP}{ok':β→Prop}(h:TF P T α mk ok)(f:α→β)(h1: ∀ a,ok a→ok' (f a))(h2: ∀ a,mk a=mk' (f a)):TF P T β mk' ok':=fun H enc w n cs d ps ht hw=>by
 obtain⟨a,g1,g2,g3,g4⟩:=h H enc w n cs d ps ht hw
 exact⟨f a,h1 a g1,g2,by rw[←h2];exact g3,by rw[←h2];exact g4⟩
theorem Xt.below{c:EW}{w':World}(h:Xt c w'):Below c.w.heap.size c.w w':=⟨h.os,h.tape,h.out,h.size,h.heap⟩
theorem Ct.at{f:Nat}{ps:List SP}{b:Bool}(h:Ct P f ps (CW (.bool b))){vs:List Value}{w:World}(hv:HL ps vs ⟨w,fun _=>False⟩)(hg:FG ⟨w,fun _=>False⟩:=by intro v p hm;cases hm):Calls P f vs.toArray w fun e w'=>e= .returned (.bool b)∧Below w.heap.size w w':=
 (h.2 vs ⟨w,fun _=>False⟩ (fun _ hk=>hk.elim) ⟨hg,hv⟩).mono fun e w' ⟨v,he,hx,hR⟩=>⟨by rw[he,hR.1],hx.below⟩
theorem jk{β:Type}{mk:β→SP}{xs:List β}:Mv xs.length 1 (xs.flatMap fun b=>[mk b])=I2 mk xs:=by
 unfold I2 slp
 rw[Az]
 congr 1
 induction xs with
 |nil=>rfl
 |cons x xs ih=>rw[B8,ih];rfl
end
open Go Go.Proofs.YtgfanjebfjeneaaGreatDoor
theorem lp{H:Type}(d:DataW H):1≤Rows.uptoBulk d:=by
 cases d with
 |lit l=>cases l<;>simp[Rows.uptoBulk]
 |nil=>simp[Rows.uptoBulk]
 |ptr d=>simp[Rows.uptoBulk]
 |slice elems spare=>simp[Rows.uptoBulk]
 |agg parts=>simp[Rows.uptoBulk]
 |iface t d=>simp[Rows.uptoBulk]
 |map entries=>simp[Rows.uptoBulk]
 |held h=>simp[Rows.uptoBulk]
theorem Jn{H:Type}{d:DataW H}{l:List (DataW H)}(h:d∈l):Rows.uptoBulk d≤Rows.uptoBulkAll l:=by
 induction l with
 |nil=>cases h
 |cons x r ih=>
  simp only[Rows.uptoBulkAll]
  cases AH.1 h with
  |inl e=>subst e;omega
  |inr e=>have:=ih e;omega
theorem XH{H β:Type}{μ:β→Nat}: ∀ {xs:List β} {ds:List (DataW H)},xs.length=ds.length→(∀ (i:Nat) (b:β) (d:DataW H),xs[i]? =some b→ds[i]? =some d→μ b≤Rows.uptoBulk d)→(xs.map μ).sum≤Rows.uptoBulkAll ds
 |[],_,_,_=>A7 _
 |x::xs,[],h,_=>by simp at h
 |x::xs,d::ds,hl,h=>by
  have h1:=h 0 x d rfl rfl
  have h2:=XH (xs:=xs) (ds:=ds) (by simpa using hl) fun i b d hb hd=>h (i+1) b d (by simpa using hb) (by simpa using hd)
  simp only[Br,List.sum_cons,Rows.uptoBulkAll]
  omega
def MV(P:Program)(T:TypeId)(α:Type)(mk:α→List SP)(ok:α→Prop)(μ:α→Nat):Prop:=
 ∀ (H:Type) (enc:TypeId×Value→H) (w:World) (n:Nat) (cs:List Value) (d:DataW H) (ps:List MemPlace),DataW.trod enc P w 0 (fun _=>true) true n T cs=some (d,ps)→(∀ x,x∈DataW.weights P T d→x≤reachBytes)→
  ∃ a,ok a∧μ a≤Rows.uptoBulk d∧cs.length=P.cellsOf T∧(mk a).length=P.cellsOf T∧Y9 (mk a) cs w
section
variable {P:Program}
theorem TF.b{T:TypeId}{α:Type}{mk:α→List SP}{ok:α→Prop}(h:TF P T α mk ok):MV P T α mk ok (fun _=>1):=fun H enc w n cs d ps ht hw=>by
 obtain⟨a,g1,g2,g3,g4⟩:=h H enc w n cs d ps ht hw
 exact⟨a,g1,lp d,g2,g3,g4⟩
theorem nY{H:Type}{enc:TypeId×Value→H}{w:World}{base:Nat}{spare:Nat→Bool}{held:Bool}{fuel:Nat}{t:TypeId}{cs:List Value}{x:DataW H×List MemPlace}{k:FloatKind}(ht:P.underlying t=some (.float k))(h:DataW.trod enc P w base spare held fuel t cs=some x): ∃ b,cs=[.float k b]∧(Lit.float k b).wf=true:=by
 cases fuel with
 |zero=>simp[DataW.trod]at h
 |succ n=>
  unfold DataW.trod at h
  rw[ht]at h
  split at h<;>simp_all
theorem w8{T:TypeId}(hu:P.underlying T=some (.float .f64))(hc:P.cellsOf T=1):TF P T Nat (fun x=>[Dm x]) (fun _=>True):=fun H enc w n cs d ps h _=>by
 obtain⟨b,h1,h2⟩:=nY hu h
 subst h1
 have hb:b<2^64:=by simpa[Lit.wf]using h2
 exact⟨cn b,trivial,hc.symm,hc.symm,Y9.one rfl ⟨b,rfl,hb,rfl⟩⟩
theorem Pa {T e : TypeId} {β : Type} {mk : β → List SP} {ok : β → Prop} {μ : β → Nat} (hu : P.underlying T = some (.slice e)) (hc : P.cellsOf T = 1) (h0 : 0 < P.cellsOf e) (hr : MV P e β mk ok μ) :
  MV P T (List β) (fun xs => [Mv xs.length (P.cellsOf e) (xs.flatMap mk)]) (fun xs => (∀ b, b ∈ xs → ok b) ∧ xs.length * P.bytesOf e ≤ reachBytes) (fun xs => (xs.map μ).sum) := fun H enc w n cs d ps h hw => by
 rcases DataW.trod_slice hu h with ⟨h1, h2⟩ | ⟨a, len, cap, elems, rest, m, hm, h1, h2, _, hlc, hcm, hel, he, hsp, _⟩
 ·subst h1
  exact ⟨[], ⟨by simp, by simp⟩, A7 _, hc.symm, hc.symm, Y9.one rfl ⟨by simp, .inl ⟨rfl, rfl⟩⟩⟩
 subst h1
 simp only [Ai] at h2
 obtain ⟨h2, _⟩ := h2
 subst h2
 have hws : ∀ x, x ∈ ((elems.map (·.1)).length + (rest.map (·.1)).length) * P.bytesOf e :: (DataW.weightsAll P e (elems.map (·.1)) ++ DataW.weightsAll P e (rest.map (·.1))) → x ≤ reachBytes := by
  intro x hx
  exact hw x (by rw [DataW.weights, hu]; exact hx)
 have hlen : len * P.bytesOf e ≤ reachBytes := by
  have := hws _ (C4)
  simp only [Az, hel] at this
  exact Ak (Au _ (Nat.le_add_right _ _)) this
 -- each element
 have each : ∀ i, i < len → ∃ b, ok b ∧ (mk b).length = P.cellsOf e ∧ (∀ d, (elems.map (·.1))[i]? = some d → μ b ≤ Rows.uptoBulk d) ∧ ∃ ci : List Value, w.cells? 0 (a.add (i * P.cellsOf e)) (P.cellsOf e) = some ci ∧ ci.length = P.cellsOf e ∧ Y9 (mk b) ci w := by
  intro i hi
  have h3 := he i hi
  obtain ⟨y, hy⟩ : ∃ y, elems[i]? = some y := ⟨elems[i], Ag (by omega)⟩
  rw [hy, Option.bind_eq_some_iff] at h3
  obtain ⟨ci, h4, h5⟩ := h3
  obtain ⟨b, g1, gm, g2, g3, g4⟩ := hr H enc w m ci y.1 y.2 h5 fun x hx => hws x (Bt _ (B3 _ (JF (List.mem_map.2 ⟨y, Bh hy, rfl⟩) hx)))
  exact ⟨b, g1, g3, fun d hd => by rw [AC, hy] at hd; simp at hd; rw [← hd]; exact gm, ci, h4, g2, g4⟩
 obtain ⟨xs, hxl, hxs⟩ := LB each
 have hmem : ∀ b, b ∈ xs → ok b ∧ (mk b).length = P.cellsOf e := fun b hb => by
  obtain ⟨i, hi, e1⟩ := List.mem_iff_getElem.1 hb
  have := hxs i b (by rw [Ag hi, e1])
  exact ⟨this.1, this.2.1⟩
 refine ⟨xs, ⟨fun b hb => (hmem b hb).1, by rw [hxl]; exact hlen⟩, Ak (XH (ds := elems.map (·.1)) (by rw [hxl, Az, hel]) fun i b d hb hd => (hxs i b hb).2.2.1 d hd) (by simp only [Rows.uptoBulk]; omega), hc.symm, hc.symm, Y9.one rfl ⟨R9 fun b hb => (hmem b hb).2, .inr ⟨a, cap, by rw [hxl], by omega, hcm, ?_⟩⟩⟩
 rcases BN len with hz | hz
 ·exact .inl (by omega)
 right
 -- the block
 have cell : ∀ i j, i < len → j < P.cellsOf e → ∃ u, w.cell? ((a.add (i * P.cellsOf e)).add j) = some u := by
  intro i j hi hj
  obtain ⟨b, _, _, _, ci, h4, h5, _⟩ := each i hi
  obtain ⟨_, h6, h7⟩ := World.cells?_some h4
  exact ⟨ci[j], by rw [h7 j hj, Ag (by omega)]⟩
 obtain ⟨b0, off, spot⟩ := a
 have hspot : spot = none ∧ ∃ cur T' fz, w.heap[b0]? = some (.cells cur T' fz) := by
  obtain ⟨u, hu0⟩ := cell 0 0 hz h0
  simp [Addr.add, World.cell?] at hu0
  split at hu0
  ·rename_i c1 c2 c3 hh
   split at hu0
   ·cases hu0
   rename_i hs
   exact ⟨by simpa using hs, _, _, _, hh⟩
  cases hu0
 obtain ⟨hs, cur, T', fz, hheap⟩ := hspot
 subst hs
 refine ⟨b0, off, rfl, fun hm => hm.elim, cur, T', fz, hheap, fun k p hk => ?_⟩
 obtain ⟨b, g1, g2⟩ := RD h0 (fun b hb => (hmem b hb).2) k p hk
 have hi : k / P.cellsOf e < len := by
  have := (AU.1 g1).1
  omega
 have hj : k % P.cellsOf e < P.cellsOf e := Ap _ h0
 obtain ⟨_, _, _, ci, h4, h5, h6⟩ := hxs _ b g1
 obtain ⟨u, h7, h8, h9⟩ := h6 _ p g2
 obtain ⟨_, _, h10⟩ := World.cells?_some h4
 have h11 := h10 _ hj
 rw [h7, Gb, Gb] at h11
 refine ⟨u, ?_, h8, h9⟩
 simp only [World.cell?, hheap] at h11
 have e1 : off + k / P.cellsOf e * P.cellsOf e + k % P.cellsOf e = off + k := by rw [C6, Nat.div_add_mod']
 rw [e1] at h11
 simpa using h11
def ZR(P:Program)(fs:List Field)(off:Nat)(α:Type)(mk:α→List SP)(ok:α→Prop)(μ:α→Nat):Prop:=
 ∀ (H:Type) (enc:TypeId×Value→H) (w:World) (n:Nat) (cs:List Value) (ds:List (DataW H)),off≤cs.length→ds.length=fs.length→
  (∀ (i:Nat) (f:Field),fs[i]? =some f→ ∃ y,DataW.trod enc P w 0 (fun _=>true) true n f.type ((cs.drop f.offset).take (P.cellsOf f.type))=some y∧ds[i]? =some y.1)→(∀ x,x∈DataW.weightsEach P (fs.map (·.type)) ds→x≤reachBytes)→
  ∃ a,ok a∧μ a≤Rows.uptoBulkAll ds∧Y9 (mk a) (cs.drop off) w∧off+(mk a).length≤cs.length
theorem aN{off:Nat}:ZR P [] off Unit (fun _=>[]) (fun _=>True) (fun _=>0):=fun H enc w n cs ds hl _ _ _=>⟨(),trivial,A7 _,fun i p h=>by simp[nth]at h,by simpa using hl⟩
theorem LF{f:Field}{fs:List Field}{off:Nat}{α β:Type}{mk:α→List SP}{ok:α→Prop}{mk':β→List SP}{ok':β→Prop}{μ:α→Nat}{μ':β→Nat}(ho:f.offset=off)(hr:MV P f.type α mk ok μ)(hrest:ZR P fs (off+P.cellsOf f.type) β mk' ok' μ'):
  ZR P (f::fs) off (α×β) (fun x=>mk x.1++mk' x.2) (fun x=>ok x.1∧ok' x.2) (fun x=>μ x.1+μ' x.2):=fun H enc w n cs ds hl hdl hf hw=>by
 match ds,hdl with
 |d::ds,hdl=>
  obtain⟨y,h1,h2⟩:=hf 0 f rfl
  simp at h2
  subst h2
  have hwe: ∀ x,x∈DataW.weights P f.type y.1++DataW.weightsEach P (fs.map (·.type)) ds→x≤reachBytes:=fun x hx=>hw x (by rw[Br,DataW.weightsEach];exact hx)
  rw[ho]at h1
  obtain⟨a,g1,gm,g2,g3,g4⟩:=hr H enc w n _ y.1 y.2 h1 fun x hx=>hwe x (B3 _ hx)
  have hlen:off+P.cellsOf f.type≤cs.length:=by
   simp at g2;omega
  obtain⟨b,k1,km,k2,k3⟩:=hrest H enc w n cs ds hlen (by simpa using hdl) (fun i f' hi=>by
   have:=hf (i+1) f' (by simpa using hi)
   simpa using this) fun x hx=>hwe x (CM _ hx)
  refine⟨(a,b),⟨g1,k1⟩,by simp only[Rows.uptoBulkAll];omega,fun i p hi=>?_,by simp[g3];omega⟩
  rw[Dq]at hi
  change (mk a++mk' b)[i]? =some p at hi
  by_cases hia:i<(mk a).length
  ·rw[AW hia]at hi
   obtain⟨u,q1,q2,q3⟩:=g4 i p (by rw[Dq];exact hi)
   refine⟨u,?_,q2,q3⟩
   rw[B9]at q1
   split at q1
   ·exact q1
   cases q1
  rw[Bp (by omega)]at hi
  obtain⟨u,q1,q2,q3⟩:=k2 (i-(mk a).length) p (by rw[Dq];exact hi)
  refine⟨u,?_,q2,q3⟩
  rw[AF]at q1⊢
  rw[←q1]
  congr 1
  omega
theorem RQ{T:TypeId}{fs:List Field}{α:Type}{mk:α→List SP}{ok:α→Prop}{μ:α→Nat}(hu:P.underlying T=some (.struct fs.toArray))(hr:ZR P fs 0 α mk ok μ)(hl: ∀ a,(mk a).length=P.cellsOf T):MV P T α mk ok μ:=fun H enc w n cs d ps h hw=>by
 obtain⟨xs,m,h1,h2,h3,h4,h5⟩:=DataW.trod_struct hu h
 simp only[Ai]at h2
 obtain⟨h2,_⟩:=h2
 subst h2
 obtain⟨a,g1,gm,g2,g3⟩:=hr H enc w m cs (xs.map (·.1)) (A7 _) (by simpa using h4) (fun i f hi=>by
  have:=h5 i f (by simpa using hi)
  obtain⟨y,hy⟩: ∃ y,xs[i]? =some y:=⟨xs[i]'(by have:=(AU.1 hi).1;simp at h4;omega),Ag _⟩
  exact⟨y,by rw[this,hy],by simp[hy]⟩) fun x hx=>hw x (by rw[DataW.weights,hu];simpa using hx)
 exact⟨a,g1,Ak gm (by simp only[Rows.uptoBulk];omega),h3,hl a,by simpa using g2⟩
def OK(P:Program)(T:TypeId)(α:Type)(mk:α→SP)(ok:α→Prop)(μ:α→Nat):Prop:=
 ∀ (H:Type) (enc:TypeId×Value→H) (w:World) (b0:Nat) (v:Value) (d:DataW H) (ps:List MemPlace),Value.okWide P w .any b0 T v→DataW.Trod enc P w 0 (fun _=>true) true T v d ps→(∀ x,x∈DataW.weights P T d→x≤reachBytes)→
  ∃ a,ok a∧μ a≤Rows.uptoBulk d∧(mk a).H v ⟨w,fun _=>False⟩
theorem Nj{T:TypeId}{α:Type}{mk:α→SP}{ok:α→Prop}{μ:α→Nat}(hu:(∃ k,P.underlying T=some (.int k))∨P.underlying T=some .bool∨ ∃ e,P.underlying T=some (.slice e))(hr:MV P T α (fun a=>[mk a]) ok μ):OK P T α mk ok μ:=fun H enc w b0 v d ps hv h hw=>by
 obtain⟨n,hn⟩:=h
 obtain⟨a,g1,gm,_,_,g4⟩:=hr H enc w n _ d ps hn hw
 have hcells:v.cells.toList=[v]:=by
  have: ∀ cs,v≠ .agg cs:=fun cs hc=>by
   subst hc
   unfold Value.okWide at hv
   rcases hu with ⟨k,hu⟩|hu|⟨e,hu⟩<;>rw[hu]at hv<;>simp[Cell.okWide,Cell.ok,hu]at hv
  cases v<;>first|rfl|exact(this _ rfl).elim
 obtain⟨u,q1,q2,q3⟩:=g4 0 (mk a) rfl
 rw[hcells]at q1
 simp at q1
 subst q1
 exact⟨a,g1,gm,q3⟩
theorem rf{T:TypeId}{α:Type}{mk:α→List SP}{ok:α→Prop}{μ:α→Nat}{fs:Array Field}(hu:P.underlying T=some (.struct fs))(hr:MV P T α mk ok μ):OK P T α (fun a=>DL (mk a)) ok μ:=fun H enc w b0 v d ps hv h hw=>by
 obtain⟨n,hn⟩:=h
 obtain⟨a,g1,gm,g2,g3,g4⟩:=hr H enc w n _ d ps hn hw
 unfold Value.okWide at hv
 rw[hu]at hv
 obtain⟨cs,rfl,hsz,_⟩:=hv
 refine⟨a,g1,gm,cs,rfl,by omega,fun i p hi=>?_⟩
 obtain⟨u,q1,q2,q3⟩:=g4 i p hi
 exact⟨u,by rw[Aq,←Cf];exact q1,q2,q3⟩
theorem MV.re{T:TypeId}{α β:Type}{mk:α→List SP}{ok:α→Prop}{mk':β→List SP}{ok':β→Prop}{μ:α→Nat}{μ':β→Nat}(h:MV P T α mk ok μ)(f:α→β)(h1: ∀ a,ok a→ok' (f a))(h2: ∀ a,mk a=mk' (f a))(h3: ∀ a,μ' (f a)≤μ a):MV P T β mk' ok' μ':=fun H enc w n cs d ps ht hw=>by
 obtain⟨a,g1,gm,g2,g3,g4⟩:=h H enc w n cs d ps ht hw
 exact⟨f a,h1 a g1,Ak (h3 a) gm,g2,by rw[←h2];exact g3,by rw[←h2];exact g4⟩
end
end Go.Bn
namespace Go.Proofs.YtgfanjebfjeneaaGreatDoor
open Go Go.Bn Go.Proofs.Tryz
theorem Di:prog.follows .mixedOrders=true:=by kernel_rfl
theorem GF:MW prog 104=some 1:=by kernel_rfl
theorem JP:MW prog 115=some 3:=by kernel_rfl
theorem Pr:MW prog 148=some 3:=by kernel_rfl
theorem I7:MW prog 183=some 3:=by kernel_rfl
theorem SF:MW prog 245=some 2:=by kernel_rfl
theorem Sj:MW prog 25=some 1:=by kernel_rfl
theorem xS:MW prog 264=some 3:=by kernel_rfl
theorem iq:MW prog 270=some 5:=by kernel_rfl
theorem Dw:MW prog 34=some 3:=by kernel_rfl
theorem Fl:MW prog 36=some 4:=by kernel_rfl
theorem db:MW prog 48=some 5:=by kernel_rfl
theorem oM:MW prog 50=some 11:=by kernel_rfl
theorem ir:MW prog 55=some 4:=by kernel_rfl
theorem xT:MW prog 57=some 6:=by kernel_rfl
theorem a13:MW prog 70=some 2:=by kernel_rfl
theorem a14:MW prog 73=some 3:=by kernel_rfl
theorem KP:MW prog 79=some 3:=by kernel_rfl
theorem Ym:MW prog 91=some 4:=by kernel_rfl
theorem sY:oy prog 217=some (2,183,3):=by kernel_rfl
theorem xV:oy prog 267=some (64,5,1):=by kernel_rfl
theorem xW:oy prog 306=some (32,5,1):=by kernel_rfl
theorem yi:pG prog 53=true:=by kernel_rfl
theorem J8:Gt prog 104 0=some (0,1):=by kernel_rfl
theorem TW:Gt prog 115 0=some (0,1):=by kernel_rfl
theorem TX:Gt prog 115 1=some (1,1):=by kernel_rfl
theorem JR:Gt prog 115 2=some (2,1):=by kernel_rfl
theorem aH:Gt prog 130 0=some (0,1):=by kernel_rfl
theorem JS:Gt prog 143 0=some (0,1):=by kernel_rfl
theorem pJ:Gt prog 143 1=some (1,3):=by kernel_rfl
theorem Q2:Gt prog 143 2=some (4,4):=by kernel_rfl
theorem TY:Gt prog 143 3=some (8,4):=by kernel_rfl
theorem aI:Gt prog 143 4=some (12,4):=by kernel_rfl
theorem aJ:Gt prog 148 0=some (0,1):=by kernel_rfl
theorem Iv:Gt prog 148 1=some (1,1):=by kernel_rfl
theorem GG:Gt prog 148 2=some (2,1):=by kernel_rfl
theorem Fq:Gt prog 154 0=some (0,1):=by kernel_rfl
theorem ES:Gt prog 154 1=some (1,1):=by kernel_rfl
theorem FY:Gt prog 161 0=some (0,2):=by kernel_rfl
theorem Q3:Gt prog 161 1=some (2,2):=by kernel_rfl
theorem Fz:Gt prog 177 0=some (0,1):=by kernel_rfl
theorem DV:Gt prog 177 1=some (1,1):=by kernel_rfl
theorem FT:Gt prog 179 0=some (0,2):=by kernel_rfl
theorem KV:Gt prog 179 1=some (2,2):=by kernel_rfl
theorem M8:Gt prog 183 0=some (0,1):=by kernel_rfl
theorem M9:Gt prog 183 1=some (1,1):=by kernel_rfl
theorem pK:Gt prog 183 2=some (2,1):=by kernel_rfl
theorem Fs:Gt prog 194 0=some (0,1):=by kernel_rfl
theorem pL:Gt prog 194 1=some (1,4):=by kernel_rfl
theorem TZ:Gt prog 194 2=some (5,1):=by kernel_rfl
theorem pM:Gt prog 194 3=some (6,1):=by kernel_rfl
theorem aK:Gt prog 194 4=some (7,1):=by kernel_rfl
theorem Q4:Gt prog 194 5=some (8,1):=by kernel_rfl
theorem JT:Gt prog 194 6=some (9,1):=by kernel_rfl
theorem NM:Gt prog 194 7=some (10,1):=by kernel_rfl
theorem Q5:Gt prog 228 0=some (0,1):=by kernel_rfl
theorem U1:Gt prog 245 0=some (0,1):=by kernel_rfl
theorem Q6:Gt prog 245 1=some (1,1):=by kernel_rfl
theorem U2:Gt prog 25 0=some (0,1):=by kernel_rfl
theorem pN:Gt prog 264 0=some (0,1):=by kernel_rfl
theorem pO:Gt prog 264 1=some (1,1):=by kernel_rfl
theorem pP:Gt prog 264 2=some (2,1):=by kernel_rfl
theorem U3:Gt prog 270 0=some (0,1):=by kernel_rfl
theorem Q7:Gt prog 270 1=some (1,1):=by kernel_rfl
theorem NN:Gt prog 270 2=some (2,1):=by kernel_rfl
theorem Ma:Gt prog 270 3=some (3,1):=by kernel_rfl
theorem U4:Gt prog 270 4=some (4,1):=by kernel_rfl
theorem Ev:Gt prog 34 0=some (0,1):=by kernel_rfl
theorem EG:Gt prog 34 1=some (1,1):=by kernel_rfl
theorem Ek:Gt prog 34 2=some (2,1):=by kernel_rfl
theorem FQ:Gt prog 36 0=some (0,1):=by kernel_rfl
theorem Ff:Gt prog 36 1=some (1,3):=by kernel_rfl
theorem N2:Gt prog 48 0=some (0,4):=by kernel_rfl
theorem OR:Gt prog 50 0=some (0,3):=by kernel_rfl
theorem YD:Gt prog 50 1=some (3,4):=by kernel_rfl
theorem LC:Gt prog 50 2=some (7,4):=by kernel_rfl
theorem QW:Gt prog 55 0=some (0,1):=by kernel_rfl
theorem QX:Gt prog 55 1=some (1,1):=by kernel_rfl
theorem U5:Gt prog 55 2=some (2,1):=by kernel_rfl
theorem U6:Gt prog 55 3=some (3,1):=by kernel_rfl
theorem jg:Gt prog 57 0=some (0,1):=by kernel_rfl
theorem YE:Gt prog 57 1=some (1,3):=by kernel_rfl
theorem YF:Gt prog 57 2=some (4,1):=by kernel_rfl
theorem YG:Gt prog 57 3=some (5,1):=by kernel_rfl
theorem vb:Gt prog 70 0=some (0,1):=by kernel_rfl
theorem jh:Gt prog 70 1=some (1,1):=by kernel_rfl
theorem vc:Gt prog 73 0=some (0,1):=by kernel_rfl
theorem vd:Gt prog 73 1=some (1,1):=by kernel_rfl
theorem ve:Gt prog 73 2=some (2,1):=by kernel_rfl
theorem KW:Gt prog 79 0=some (0,1):=by kernel_rfl
theorem Kd:Gt prog 79 1=some (1,1):=by kernel_rfl
theorem KX:Gt prog 79 2=some (2,1):=by kernel_rfl
theorem pT:YH prog 245 0=some 243:=by kernel_rfl
theorem I8:aV prog 159=some .u64:=by kernel_rfl
theorem qh:aV prog 2=some .i64:=by kernel_rfl
theorem DT:aV prog 256=some .u32:=by kernel_rfl
theorem KL:aV prog 3=some .i64:=by kernel_rfl
theorem Pu:aV prog 5=some .u8:=by kernel_rfl
theorem El:aV prog 71=some .u64:=by kernel_rfl
theorem Ob:PD prog 104=some [(0,1)]:=by kernel_rfl
theorem tB:PD prog 115=some [(0,1),(1,1),(2,1)]:=by kernel_rfl
theorem zd:PD prog 130=some [(0,1)]:=by kernel_rfl
theorem ze:PD prog 143=some [(0,1),(1,3),(4,4),(8,4),(12,4)]:=by kernel_rfl
theorem bP:PD prog 148=some [(0,1),(1,1),(2,1)]:=by kernel_rfl
theorem RK:PD prog 177=some [(0,1),(1,1)]:=by kernel_rfl
theorem tC:PD prog 183=some [(0,1),(1,1),(2,1)]:=by kernel_rfl
theorem zf:PD prog 194=some [(0,1),(1,4),(5,1),(6,1),(7,1),(8,1),(9,1),(10,1)]:=by kernel_rfl
theorem tD:PD prog 228=some [(0,1)]:=by kernel_rfl
theorem lR:PD prog 245=some [(0,1),(1,1)]:=by kernel_rfl
theorem a1o:PD prog 25=some [(0,1)]:=by kernel_rfl
theorem zg:PD prog 264=some [(0,1),(1,1),(2,1)]:=by kernel_rfl
theorem zk:PD prog 270=some [(0,1),(1,1),(2,1),(3,1),(4,1)]:=by kernel_rfl
theorem Hp:PD prog 34=some [(0,1),(1,1),(2,1)]:=by kernel_rfl
theorem J3:PD prog 36=some [(0,1),(1,3)]:=by kernel_rfl
theorem lS:PD prog 48=some [(0,4),(4,1)]:=by kernel_rfl
theorem a1p:PD prog 50=some [(0,3),(3,4),(7,4)]:=by kernel_rfl
theorem a1q:PD prog 55=some [(0,1),(1,1),(2,1),(3,1)]:=by kernel_rfl
theorem zl:PD prog 57=some [(0,1),(1,3),(4,1),(5,1)]:=by kernel_rfl
theorem zm:PD prog 79=some [(0,1),(1,1),(2,1)]:=by kernel_rfl
theorem lU:PD prog 91=some [(0,1),(1,1),(2,1),(3,1)]:=by kernel_rfl
theorem Ol:KF prog 102=true:=by kernel_rfl
theorem Tj:KF prog 113=true:=by kernel_rfl
theorem Xl:KF prog 128=true:=by kernel_rfl
theorem zZ:KF prog 135=true:=by kernel_rfl
theorem Ic:KF prog 138=true:=by kernel_rfl
theorem GW:KF prog 152=true:=by kernel_rfl
theorem Tk:KF prog 159=true:=by kernel_rfl
theorem mY:KF prog 172=true:=by kernel_rfl
theorem FF:KF prog 175=true:=by kernel_rfl
theorem a00:KF prog 189=true:=by kernel_rfl
theorem sc2:KF prog 2=true:=by kernel_rfl
theorem a1D:KF prog 22=true:=by kernel_rfl
theorem cm:KF prog 226=true:=by kernel_rfl
theorem rU:KF prog 23=true:=by kernel_rfl
theorem mZ:KF prog 243=true:=by kernel_rfl
theorem Fb:KF prog 256=true:=by kernel_rfl
theorem a01:KF prog 261=true:=by kernel_rfl
theorem a02:KF prog 262=true:=by kernel_rfl
theorem fV:KF prog 28=true:=by kernel_rfl
theorem UO:KF prog 29=true:=by kernel_rfl
theorem Ez:KF prog 3=true:=by kernel_rfl
theorem Eo:KF prog 32=true:=by kernel_rfl
theorem Kg:KF prog 4=true:=by kernel_rfl
theorem fW:KF prog 41=true:=by kernel_rfl
theorem sc5:KF prog 5=true:=by kernel_rfl
theorem Fp:KF prog 53=true:=by kernel_rfl
theorem a03:KF prog 68=true:=by kernel_rfl
theorem Fa:KF prog 71=true:=by kernel_rfl
theorem Zp:KF prog 77=true:=by kernel_rfl
theorem a04:KF prog 86=true:=by kernel_rfl
theorem PJ:Iu prog 113=some (172,1,8):=by kernel_rfl
theorem Df:Iu prog 152=some (71,1,8):=by kernel_rfl
theorem Da:Iu prog 175=some (256,1,4):=by kernel_rfl
theorem s6:Iu prog 22=some (71,1,8):=by kernel_rfl
theorem Xy:Iu prog 23=some (55,4,32):=by kernel_rfl
theorem cy:Iu prog 258=some (29,1,8):=by kernel_rfl
theorem wy:Iu prog 26=some (70,2,32):=by kernel_rfl
theorem La:Iu prog 28=some (50,11,168):=by kernel_rfl
theorem Dl:Iu prog 32=some (53,1,8):=by kernel_rfl
theorem gk:Iu prog 38=some (57,6,96):=by kernel_rfl
theorem wz:Iu prog 40=some (3,1,8):=by kernel_rfl
theorem Kh:Iu prog 41=some (48,5,72):=by kernel_rfl
theorem a09:Iu prog 63=some (91,4,48):=by kernel_rfl
theorem wA:Iu prog 68=some (73,3,40):=by kernel_rfl
theorem Sr:Iu prog 77=some (104,1,8):=by kernel_rfl
theorem Lb:Iu prog 86=some (32,1,24):=by kernel_rfl
theorem JC:J5 prog 104=some 1:=by kernel_rfl
theorem tV:J5 prog 113=some 1:=by kernel_rfl
theorem PK:J5 prog 115=some 3:=by kernel_rfl
theorem a0q:J5 prog 128=some 1:=by kernel_rfl
theorem Oy:J5 prog 148=some 3:=by kernel_rfl
theorem nN:J5 prog 152=some 1:=by kernel_rfl
theorem cJ:J5 prog 175=some 1:=by kernel_rfl
theorem a0r:J5 prog 183=some 3:=by kernel_rfl
theorem cK:J5 prog 245=some 2:=by kernel_rfl
theorem a1G:J5 prog 25=some 1:=by kernel_rfl
theorem G4:J5 prog 256=some 1:=by kernel_rfl
theorem a0s:J5 prog 264=some 3:=by kernel_rfl
theorem nO:J5 prog 270=some 5:=by kernel_rfl
theorem gG:J5 prog 29=some 1:=by kernel_rfl
theorem wE:J5 prog 3=some 1:=by kernel_rfl
theorem PU:J5 prog 32=some 1:=by kernel_rfl
theorem FB:J5 prog 34=some 3:=by kernel_rfl
theorem GO:J5 prog 36=some 4:=by kernel_rfl
theorem sF:J5 prog 4=some 1:=by kernel_rfl
theorem wF:J5 prog 41=some 1:=by kernel_rfl
theorem gH:J5 prog 48=some 5:=by kernel_rfl
theorem a1H:J5 prog 50=some 11:=by kernel_rfl
theorem Lr:J5 prog 53=some 1:=by kernel_rfl
theorem wG:J5 prog 55=some 4:=by kernel_rfl
theorem a0t:J5 prog 57=some 6:=by kernel_rfl
theorem a1I:J5 prog 70=some 2:=by kernel_rfl
theorem J4:J5 prog 71=some 1:=by kernel_rfl
theorem a1J:J5 prog 73=some 3:=by kernel_rfl
theorem a0u:J5 prog 77=some 1:=by kernel_rfl
theorem nP:J5 prog 79=some 3:=by kernel_rfl
theorem a1K:J5 prog 86=some 1:=by kernel_rfl
theorem ZC:J5 prog 91=some 4:=by kernel_rfl
theorem GK:HC prog 104=some [.pointer none]:=by kernel_rfl
theorem MN:HC prog 115=some [.int .i64 0,.int .i64 0,.slice none 0 0]:=by kernel_rfl
theorem a0B:HC prog 128=some [.pointer none]:=by kernel_rfl
theorem a0C:HC prog 130=some [.bool false]:=by kernel_rfl
theorem a0D:HC prog 143=some [.bool false,.int .i64 0,.int .i64 0,.slice none 0 0,.slice none 0 0,.int .i64 0,.int .i64 0,.slice none 0 0,.slice none 0 0,.int .i64 0,.int .i64 0,.slice none 0 0,.slice none 0 0,.int .i64 0,.int .i64 0,.slice none 0 0]:=by kernel_rfl
theorem MO:HC prog 148=some [.bool false,.int .u64 0,.int .i64 0]:=by kernel_rfl
theorem XY:HC prog 154=some [.bool false,.slice none 0 0]:=by kernel_rfl
theorem MP:HC prog 161=some [.bool false,.slice none 0 0,.bool false,.slice none 0 0]:=by kernel_rfl
theorem cQ:HC prog 172=some [.pointer none]:=by kernel_rfl
theorem MS:HC prog 177=some [.bool false,.slice none 0 0]:=by kernel_rfl
theorem XZ:HC prog 179=some [.bool false,.slice none 0 0,.bool false,.slice none 0 0]:=by kernel_rfl
theorem ot:HC prog 183=some [.int .u64 0,.int .i64 0,.int .i64 0]:=by kernel_rfl
theorem a0E:HC prog 194=some [.bool false,.slice none 0 0,.int .i64 0,.int .i64 0,.slice none 0 0,.slice none 0 0,.float .f64 0,.float .f64 0,.slice none 0 0,.slice none 0 0,.float .f64 0]:=by kernel_rfl
theorem a0F:HC prog 217=some [.int .u64 0,.int .i64 0,.int .i64 0,.int .u64 0,.int .i64 0,.int .i64 0]:=by kernel_rfl
theorem u7:HC prog 228=some [.bool false]:=by kernel_rfl
theorem Y1:HC prog 245=some [.pointer none,.int .i64 0]:=by kernel_rfl
theorem a0G:HC prog 25=some [.slice none 0 0]:=by kernel_rfl
theorem I1:HC prog 256=some [.int .u32 0]:=by kernel_rfl
theorem u9:HC prog 264=some [.nilFunc,.nilFunc,.nilFunc]:=by kernel_rfl
theorem cR:HC prog 270=some [.int .u64 0,.int .u64 0,.int .u64 0,.int .u64 0,.bool false]:=by kernel_rfl
theorem ou:HC prog 29=some [.int .i64 0]:=by kernel_rfl
theorem zr3:HC prog 3=some [.int .i64 0]:=by kernel_rfl
theorem OE:HC prog 32=some [.slice none 0 0]:=by kernel_rfl
theorem EU:HC prog 34=some [.int .i64 0,.int .i64 0,.slice none 0 0]:=by kernel_rfl
theorem G8:HC prog 36=some [.slice none 0 0,.int .i64 0,.int .i64 0,.slice none 0 0]:=by kernel_rfl
theorem a1L:HC prog 41=some [.slice none 0 0]:=by kernel_rfl
theorem Sd:HC prog 48=some [.slice none 0 0,.int .i64 0,.int .i64 0,.slice none 0 0,.bool false]:=by kernel_rfl
theorem sW:HC prog 50=some [.int .i64 0,.int .i64 0,.slice none 0 0,.slice none 0 0,.int .i64 0,.int .i64 0,.slice none 0 0,.slice none 0 0,.int .i64 0,.int .i64 0,.slice none 0 0]:=by kernel_rfl
theorem EL:HC prog 53=some [.float .f64 0]:=by kernel_rfl
theorem ov:HC prog 55=some [.int .i64 0,.int .i64 0,.float .f64 0,.float .f64 0]:=by kernel_rfl
theorem ZP:HC prog 57=some [.int .i64 0,.int .i64 0,.int .i64 0,.slice none 0 0,.slice none 0 0,.slice none 0 0]:=by kernel_rfl
theorem a1M:HC prog 70=some [.int .i64 0,.slice none 0 0]:=by kernel_rfl
theorem M5:HC prog 71=some [.int .u64 0]:=by kernel_rfl
theorem a1N:HC prog 73=some [.slice none 0 0,.int .u64 0,.int .u64 0]:=by kernel_rfl
theorem ZQ:HC prog 79=some [.int .i64 0,.int .i64 0,.slice none 0 0]:=by kernel_rfl
theorem a1O:HC prog 86=some [.slice none 0 0]:=by kernel_rfl
theorem Se:HC prog 91=some [.float .f64 0,.float .f64 0,.float .f64 0,.slice none 0 0]:=by kernel_rfl
theorem w7:TF prog 71 Nat (fun b=>[XR b]) (fun b=>b<2^64):=we underlying71 (by kernel_rfl)
theorem rd3:TF prog 3 Int (fun z=>[I6 z]) (fun z=>(Lit.int .i64 z).wf=true):=mo underlying3 (by kernel_rfl)
theorem rd2:TF prog 2 Int (fun z=>[I6 z]) (fun z=>(Lit.int .i64 z).wf=true):=mo underlying2 (by kernel_rfl)
theorem zt:TF prog 53 Nat (fun x=>[Dm x]) (fun _=>True):=w8 underlying53 (by kernel_rfl)
theorem c71:prog.cellsOf 71=1:=by kernel_rfl
theorem c3:prog.cellsOf 3=1:=by kernel_rfl
theorem c2:prog.cellsOf 2=1:=by kernel_rfl
theorem c22:prog.cellsOf 22=1:=by kernel_rfl
theorem c53:prog.cellsOf 53=1:=by kernel_rfl
theorem c55:prog.cellsOf 55=4:=by kernel_rfl
theorem c73:prog.cellsOf 73=3:=by kernel_rfl
theorem c70:prog.cellsOf 70=2:=by kernel_rfl
theorem qb{z:Int}(h:(Lit.int .i64 z).wf=true): -9223372036854775808≤z∧z≤9223372036854775807:=by simpa[Lit.wf,IntKind.min,IntKind.max,IntKind.signed,IntKind.bits]using h
theorem cH{α:Type}: ∀ xs:List α,(xs.map fun _=>1).sum=xs.length
 |[]=>rfl
 |x::xs=>by rw[Br,List.sum_cons,cH xs,AG];omega
theorem zr:MV prog 22 (List Nat) (fun bs=>[u6 bs]) (fun bs=> ∀ b,b∈bs→b<2^64) (fun bs=>bs.length):=
 (Pa underlying22 (by kernel_rfl) (by rw[c71];decide) w7.b).re id (fun xs h=>h.1) (fun xs=>by rw[c71];exact congrArg (fun p=>[p]) jk) (fun xs=>by rw[cH];exact A5 _)
theorem a1w:MV prog 73 K8 mP Qw (fun w=>w.h.length+1):=
 (RQ (fs:=_) underlying73 (LF rfl zr (LF (by rw[c22]) w7.b (LF (by rw[c22,c71]) w7.b aN))) (fun a=>by rw[c73];rfl)).re (fun m=>⟨m.1,m.2.1,m.2.2.1⟩) (fun a h=>⟨h.1,h.2.1,h.2.2.1⟩) (fun a=>rfl) (fun a=>by show a.1.length+1≤_;omega)
theorem a1u:MV prog 68 (List K8) (fun ws=>[Lq 3 mP ws]) (fun ws=> ∀ w,w∈ws→Qw w) (fun ws=>(ws.map fun w=>w.h.length+1).sum):=
 (Pa underlying68 (by kernel_rfl) (by rw[c73];decide) a1w).re id (fun xs h=>h.1) (fun xs=>by rw[c73];rfl) (fun xs=>A5 _)
theorem a1v:MV prog 70 MT YR (fun g=> ∀ w,w∈g.w→Qw w) (fun g=>(g.w.map fun w=>w.h.length+1).sum):=
 (RQ (fs:=_) underlying70 (LF rfl rd2.b (LF (by rw[c2]) a1u aN)) (fun a=>by rw[c70];rfl)).re (fun m=>⟨m.1,m.2.1⟩) (fun a h=>h.2.1) (fun a=>rfl) (fun a=>by show(a.2.1.map _).sum≤_;omega)
theorem a1t:MV prog 26 (List MT) (fun gs=>[Lq 2 YR gs]) (fun gs=> ∀ g,g∈gs→ ∀ w,w∈g.w→Qw w) (fun gs=>(gs.map fun g=>(g.w.map fun w=>w.h.length+1).sum).sum):=
 (Pa underlying26 (by kernel_rfl) (by rw[c70];decide) a1v).re id (fun xs h=>h.1) (fun xs=>by rw[c70];rfl) (fun xs=>A5 _)
theorem bt{α:Type}{f:α→Nat}{x:α}: ∀ {l:List α},x∈l→f x≤(l.map f).sum
 |y::l,h=>by
  rw[Br,List.sum_cons]
  rcases AH.1 h with h|h
  ·rw[h];omega
  have:=bt (f:=f) h;omega
theorem ca: ∀ ws:List K8,(ws.map fun w=>w.h.length+1).sum=ws.length+(ws.flatMap K8.h).length
 |[]=>rfl
 |w::ws=>by rw[Br,List.sum_cons,ca ws,B8,As,AG];omega
theorem dS{gs:List MT}(h: ∀ g,g∈gs→ ∀ w,w∈g.w→Qw w)(hb:(gs.map fun g=>(g.w.map fun w=>w.h.length+1).sum).sum≤1048576): ∀ g,g∈gs→Sz g:=fun g hg=>by
 have h1:=bt (f:=fun g:MT=>(g.w.map fun w=>w.h.length+1).sum) hg
 have h2:=ca g.w
 exact⟨h g hg,by omega,by omega⟩
theorem a1A:TF prog 55 H9 Od (fun _=>True):=
 (Te (fs:=_) underlying55 (NQ rfl rd3 (NQ (by rw[c3]) rd3 (NQ (by rw[c3]) zt (NQ (by rw[c3,c53]) zt jl)))) (fun a=>by rw[c55];rfl)).re (fun m=>⟨m.1,m.2.1,m.2.2.1,m.2.2.2.1⟩) (fun a h=>trivial) (fun a=>rfl)
theorem a1x:TF prog 23 (List H9) (fun ls=>[Lq 4 Od ls]) (fun _=>True):=
 (mq underlying23 (by kernel_rfl) (by rw[c55];decide) a1A).re id (fun xs h=>trivial) (fun xs=>by rw[c55];rfl)
theorem a1y:TF prog 25 (List H9) (fun ls=>[Lq 4 Od ls]) (fun _=>True):=
 (Te (fs:=_) underlying25 (NQ rfl a1x jl) (fun a=>by kernel_rfl)).re (fun m=>m.1) (fun a h=>trivial) (fun a=>rfl)
theorem zb:OK prog 22 (List Nat) u6 (fun bs=> ∀ b,b∈bs→b<2^64) (fun bs=>bs.length):=Nj (.inr (.inr ⟨_,underlying22⟩)) zr
theorem a1j:OK prog 26 (List MT) (fun gs=>Lq 2 YR gs) (fun gs=> ∀ g,g∈gs→ ∀ w,w∈g.w→Qw w) (fun gs=>(gs.map fun g=>(g.w.map fun w=>w.h.length+1).sum).sum):=Nj (.inr (.inr ⟨_,underlying26⟩)) a1t
theorem ob3:OK prog 3 Int (fun z=>I6 z) (fun z=>(Lit.int .i64 z).wf=true) (fun _=>1):=Nj (.inl ⟨_,underlying3⟩) rd3.b
theorem a1i:OK prog 25 (List H9) QB (fun _=>True) (fun _=>1):=rf underlying25 a1y.b
attribute [local irreducible] OpOK
def OI:SP:=DL [CW (.int .u64 52),I6 2047,I6 1075]
theorem SJ:Ya prog 100 Go.Extern.MathFloatBits.float64bits:=⟨_,func100,by kernel_rfl,by kernel_rfl,by kernel_rfl,by kernel_rfl⟩
theorem tj:Ya prog 38 Go.Extern.MathFloatBits.float64frombits:=⟨_,func38,by kernel_rfl,by kernel_rfl,by kernel_rfl,by kernel_rfl⟩
theorem UP:Ct prog 190 [OI] (CW (.int .u64 9223372036854775808)):=by
 refine Ct.of func190 rfl (by kernel_rfl) rfl fun c0=>DS<|zV (.w 0 (xa 0 rfl yL rfl)<|.b rfl<|.nil) rfl fun g1=>CZ 0 (E1 1 rfl) rfl<|zW (.n (xe M9 rfl)<|.r 0 (xf 0 Ez rfl zJ rfl)<|.n (xo rfl (wo (by omega)))<|.n (yG KL El (.t rfl) rfl)<|.n (xe M8 rfl)<|.r 0 (xf 0 Tk rfl zJ rfl)<|.n (GD (.t rfl) (.t rfl) (by omega) rfl)<|.z rfl) rfl fun g2=>CY (E1 2 rfl)<|De<|DO rfl<|Dc (by decide+kernel)
theorem jB:Ct prog 191 [OI] (CW (.int .u64 9218868437227405312)):=by
 refine Ct.of func191 rfl (by kernel_rfl) rfl fun c0=>DS<|zV (.w 0 (xa 0 rfl yL rfl)<|.b rfl<|.nil) rfl fun g1=>CZ 0 (E1 1 rfl) rfl<|zW (.n (xe M9 rfl)<|.r 0 (xf 0 Ez rfl zJ rfl)<|.n (yG KL El (.t rfl) rfl)<|.n (xe M8 rfl)<|.r 0 (xf 0 Tk rfl zJ rfl)<|.n (GD (.t rfl) (.t rfl) (by omega) rfl)<|.z rfl) rfl fun g2=>CY (E1 2 rfl)<|De<|DO rfl<|Dc (by decide+kernel)
theorem Ud:Ct prog 163 [OI] (CW (.int .u64 4503599627370496)):=by
 refine Ct.of func163 rfl (by kernel_rfl) rfl fun c0=>DS<|zV (.w 0 (xa 0 rfl yL rfl)<|.b rfl<|.nil) rfl fun g1=>CZ 0 (E1 1 rfl) rfl<|zW (.n (xe M8 rfl)<|.r 0 (xf 0 Tk rfl zJ rfl)<|.n (GD (.k rfl) (.t rfl) (by omega) rfl)<|.z rfl) rfl fun g2=>CY (E1 2 rfl)<|De<|DO rfl<|Dc (by decide+kernel)
theorem qT:Ct prog 149 [OI] (CW (.int .u64 9221120237041090561)):=by
 refine Ct.of func149 rfl (by kernel_rfl) rfl fun c0=>DS<|zV (.w 0 (xa 0 rfl yL rfl)<|.b rfl<|.nil) rfl fun g1=>CZ 0 (E1 1 rfl) rfl<|zC<|zF (zG [[],[0],[],[0,1,2],[0,1,2,3],[0,1,2,3,4],[],[6],[6,7],[0,1,2,3,4,5,6,7,8],[0,1,2,3,4,5,6,7,8,9]] (.r 0 (xc 0 I7 rfl zJ rfl)<|.n (zP (jB) (A1 rfl))<|.r 0 (xc 0 I7 rfl zJ rfl)<|.n (zP (Ud) (A1 rfl))<|.n (GV (.t rfl) (.k rfl) (by omega) rfl)<|.n (Ep (by simp) (.t rfl) (.t rfl) rfl)<|.n (xe M8 rfl)<|.r 0 (xf 0 Tk rfl zJ rfl)<|.n (Gq (.t rfl) (.k rfl) (by omega) rfl)<|.n (Ep (by simp) (.t rfl) (.t rfl) rfl)<|.z rfl) (fun _=>Di) rfl fun g2=>CY (E1 2 rfl) ?_)
 refine De<|DO rfl<|Dc (by decide+kernel)
theorem vL{b:Nat}(hb:b<2^64):Ct prog 148 [CW (.int .u64 (b:Int)),OI] (CW (.bool (FN b))):=by
 refine Ct.of func148 rfl (by kernel_rfl) rfl fun c0=>DS<|zV (.w 0 (xa 0 rfl yL rfl)<|.b rfl<|.nil) rfl fun g1=>CZ 0 (E2 0 3 rfl) rfl<|zC<|zF (zG [[],[],[1],[0,1,2],[],[1,2,4],[0,1,2,3,4,5],[0,1,2,3,4,5,6]] (.m rfl<|.r 0 (xc 0 I7 rfl zJ rfl)<|.n (zP (UP) (A1 rfl))<|.n (Ep (by simp) (.t rfl) (.t rfl) rfl)<|.r 0 (xc 0 I7 rfl zJ rfl)<|.n (zP (jB) (A1 rfl))<|.n (xw rfl)<|.z rfl) (fun _=>Di) rfl fun g2=>CY (E1 4 rfl) ?_)
 refine De<|DO rfl<|Ia (by rw[Jv,Vt b hb];unfold CT;rw[decide_eq_decide];omega)
theorem ND{b:Nat}(hb:b<2^64):Ct prog 102 [CW (.int .u64 (b:Int)),OI] (CW (.int .u64 (cn b:Int))):=by
 refine Ct.of func102 rfl (by kernel_rfl) rfl fun c0=>DS<|zV (.w 0 (xa 0 rfl yL rfl)<|.b rfl<|.nil) rfl fun g1=>CZ 0 (E2 0 3 rfl) rfl<|Dd<|zV (.m rfl<|.r 0 (xc 0 I7 rfl zJ rfl)<|.n (zP (vL hb) (A2 rfl))<|.nil) rfl fun g2=>CZ 0 (E3 0 3 7 rfl) rfl<|zC<|zh rfl (fun h1=>?_) (fun h1=>?_)<;>try simp only[CT,Z]at h1
 ·refine zV (.r 0 (xc 0 I7 rfl zJ rfl)<|.n (zP (qT) (A1 rfl))<|.z rfl) rfl fun g3=>CY (E1 4 rfl)<|De<|zD<|DO rfl<|Dc (by rw[Hr h1];rfl)
 refine yE<|zW (.m rfl<|.z rfl) rfl fun g4=>CY (E1 4 rfl)<|De<|DO rfl<|Dc (by rw[EA h1])
theorem SK{x:Nat}:Ct prog 102 [Sk x,OI] (CW (.int .u64 (x:Int))):=Ct.bit (ND (b:=0) (by decide)).1 fun b h1 h2=>(ND h1).res fun v c h=>by rw[h2]at h;exact h
theorem nA{b:Nat}(hb:b<2^64):Ct prog 147 [CW (.int .u64 (b:Int)),OI] (EP [Ge,I6 (FI (cn b):Int),CW (.int .u64 (He (cn b):Int))]):=by
 refine Ct.of func147 rfl (by kernel_rfl) rfl fun c0=>DS<|zV (.w 0 (xa 0 rfl yL rfl)<|.b rfl<|.b rfl<|.b rfl<|.nil) rfl fun g1=>CZ 0 (E2 0 3 rfl) rfl<|zW (.m rfl<|.r 0 (xc 0 I7 rfl zJ rfl)<|.n (zP (ND hb) (A2 rfl))<|.z rfl) rfl fun g2=>CZ 0 (E2 3 7 rfl) rfl<|zC<|zF (zG [[],[],[1],[0,1,2],[0,1,2,3],[],[],[6],[5,6,7],[],[9],[9,10],[5,6,7,8,9,10,11],[5,6,7,8,9,10,11,12],[],[],[1,2,15],[1,2,15,16],[1,2,14,15,16,17],[0,1,2,3,4,15,16],[0,1,2,3,4,5,6,7,8,9,10,11,12,13,15,16,19],[0,1,2,3,4,5,6,7,8,9,10,11,12,13,14,15,16,17,18,19,20]] (.m rfl<|.r 0 (xc 0 I7 rfl zJ rfl)<|.n (zP (UP) (A1 rfl))<|.n (Ep (by simp) (.t rfl) (.t rfl) rfl)<|.n (xd rfl)<|.m rfl<|.n (xe M8 rfl)<|.r 0 (xf 0 Tk rfl zJ rfl)<|.n (GV (.t rfl) (.t rfl) (by omega) (Jz (cn b) 52 (by omega)))<|.n (xe M9 rfl)<|.r 0 (xf 0 Ez rfl zJ rfl)<|.n (xg KL El rfl (by decide+kernel:_=(2047:Int)))<|.n (Ep (by simp) (.t rfl) (.t rfl) (dK hb))<|.n (xg El KL rfl (NL _))<|.m rfl<|.r 0 (xc 0 I7 rfl zJ rfl)<|.n (zP (Ud) (A1 rfl))<|.n (xh rfl (by decide+kernel:_=(4503599627370495:Int)))<|.n (Ep (by simp) (.t rfl) (.t rfl) (SV hb))<|.a rfl<|.a rfl<|.z rfl) (fun _=>Di) rfl fun g3=>CY (E3 4 5 6 rfl) ?_)
 refine De<|zq rfl<|fun _ _ _ ⟨vs,h1,h2⟩=>⟨vs,h1,HL.sub1 h2⟩
theorem bH:Ct prog 101 [I6 0] (OI):=by
 refine Ct.of func101 rfl (by kernel_rfl) rfl fun c0=>DS<|zV (.w 0 (xj 0 ot rfl)<|.nil) rfl fun g1=>CZ 0 (E2 0 2 rfl) rfl<|zW (.n (D1 ot rfl tC (.cons rfl (.k rfl) D7 rfl (yU rfl (A8 rfl)) (.cons rfl (.k rfl) D7 rfl (yU rfl (A8 rfl)) (.cons rfl (.k rfl) D7 rfl (yU rfl (A8 rfl)) .nil))))<|.n (D1 ot rfl tC (.cons rfl (.k rfl) D7 rfl (yU rfl (A8 rfl)) (.cons rfl (.k rfl) D7 rfl (yU rfl (A8 rfl)) (.cons rfl (.k rfl) D7 rfl (yU rfl (A8 rfl)) .nil))))<|.n (WO a0F rfl sY (.cons rfl (.t rfl) yL rfl (yU rfl (by decide)) (.cons rfl (.t rfl) yL rfl (yU rfl (by decide)) .nil)))<|.m rfl<|.n (Uu sY I7 (.t rfl) (.t rfl) (by omega) (by omega) rfl)<|.w 0 (xn 0 rfl yL a0r rfl)<|.nil) rfl fun g2=>CZ 0 (E1 2 rfl) rfl<|De<|zQ (.cons (.ag 0 (.t rfl) I7 rfl rfl rfl)<|.nil) (zM (yD zL) ?_)
 exact zL
theorem Yw{b:Nat}(hb:b<2^64):Ct prog 99 [CW (.int .u64 (b:Int)),OI] (I6 (JJ (cn b))):=by
 refine Ct.of func99 rfl (by kernel_rfl) rfl fun c0=>DS<|zV (.w 0 (xa 0 rfl yL rfl)<|.b rfl<|.nil) rfl fun g1=>CZ 0 (E2 0 3 rfl) rfl<|zW (.m rfl<|.r 0 (xc 0 I7 rfl zJ rfl)<|.n (zP (nA hb) (A2 rfl))<|.m rfl<|.n (xk rfl)<|.n (xk rfl)<|.n (xk rfl)<|.a rfl<|.a rfl<|.z rfl) rfl fun g2=>CZ 0 (E3 3 6 7 rfl) rfl<|Dd<|zT<|zV (.m rfl<|.n (xe M9 rfl)<|.r 0 (xf 0 Ez rfl zJ rfl)<|.n (xw rfl)<|.m rfl<|.n (gu rfl (fun hC=>(xB rfl)))<|.n (gu rfl (fun hC=>(oc rfl (.w rfl hC) (.k rfl) rfl)))<|.n (EO (.t rfl) (fun h2=>(.w rfl h2)))<|.z rfl) rfl fun g3=>CZ 0 (E4 3 6 7 15 rfl) rfl<|zC<|zh rfl (fun h1=>?_) (fun h1=>?_)<;>try simp only[CT,Z]at h1
 ·refine zV (.b rfl<|.nil) rfl fun g4=>CY (E1 4 rfl)<|De<|yP<|zD<|DO rfl<|Dc (by unfold JJ;(repeat' split)<;>omega)
 refine zV (.m rfl<|.n (xe M9 rfl)<|.r 0 (xf 0 Ez rfl zJ rfl)<|.n (xw rfl)<|.z rfl) rfl fun g5=>CY (E3 6 7 24 rfl)<|zC<|zh rfl (fun h2=>?_) (fun h2=>?_)<;>try simp only[CT,Z]at h2
 ·refine zV (.b rfl<|.nil) rfl fun g6=>CY (E1 4 rfl)<|De<|yP<|zD<|DO rfl<|Dc (by unfold JJ;(repeat' split)<;>omega)
 refine zV (.m rfl<|.n (xd rfl)<|.m rfl<|.n (gu rfl (fun hC=>(xB rfl)))<|.n (gu rfl (fun hC=>(oc rfl (.w rfl hC) (.k rfl) rfl)))<|.n (EO (.t rfl) (fun h2=>(.w rfl h2)))<|.z rfl) rfl fun g7=>CY (E2 6 29 rfl)<|zC<|zh rfl (fun h3=>?_) (fun h3=>?_)<;>try simp only[CT,Z]at h3
 ·refine zV (.b rfl<|.nil) rfl fun g8=>CY (E1 4 rfl)<|De<|yP<|zD<|DO rfl<|Dc (by unfold JJ;(repeat' split)<;>omega)
 refine zV (.m rfl<|.n (xd rfl)<|.z rfl) rfl fun g9=>CY (E1 36 rfl)<|zC<|zh rfl (fun h4=>?_) (fun h4=>?_)<;>try simp only[CT,Z]at h4
 ·refine zV (.b rfl<|.nil) rfl fun g10=>CY (E1 4 rfl)<|De<|yP<|zD<|DO rfl<|Dc (by unfold JJ;(repeat' split)<;>omega)
 refine yE<|zR<|zW (.b rfl<|.nil) rfl fun g11=>CY (E1 4 rfl)<|De<|DO rfl<|Dc (by unfold JJ;(repeat' split)<;>omega)
end Go.Proofs.YtgfanjebfjeneaaGreatDoor
