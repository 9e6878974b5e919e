/-
 Closures told by what they captured; deferred calls, run when their function returns; recover, where nothing panics.
-/
import Derived.Test.YtgfanjebfjeneaaGreatDoorZqM4
import Derived.Recover
import Derived.Scope
import Derived.Test.YtgfanjebfjeneaaGreatDoorZqM8
import Derived.Test.YtgfanjebfjeneaaGreatDoorZqM2
import Derived.Laws.Pointers
set_option linter.unusedVariables false
set_option linter.unusedSimpArgs false
namespace Go.Bn
open Go
def clv(fid:Nat)(ps:List SP):SP:=⟨fun v c=> ∃ capt:List Value,v= .func (.func fid) #[] capt.toArray∧HL ps capt c,by
 rintro v c c' hle ⟨capt,h1,h2⟩
 exact⟨capt,h1,h2.st hle⟩⟩
theorem TM{fid:Nat}{ps:List SP}:F8 (clv fid ps) [clv fid ps]:= .one fun _ _ ⟨_,h,_⟩=>h▸rfl
section ops
variable {P:Program} {n:Nat} {ops:Array Oper} {Γ:D2} {ρ:DU} {δ:DK} {τ:List VR}
variable {d:Nat} {ty:TypeId} {pos:String} {af:Array Edge}
theorem Fh{fid:Nat}{xs:List Operand}{ps:List SP}(hx:Sf Γ δ ρ xs ps):
  OpOK P n ops Γ ρ δ τ ⟨some d,.makeFunc (.func fid) #[] xs.toArray,ty,pos,af,none⟩ .no (.c (clv fid ps)) ET:=
 DE fun a c hfa hr=>⟨.func (.func fid) #[] (xs.map a.eval).toArray,by simp[execOp,Instr.makeFunc],xs.map a.eval,rfl,hx.val (a:=a) (c:=c) fun x q hx' hq=>hr x q (by simpa[Op.operands]using hx') hq⟩
theorem RG{f:Nat}{x:Operand}{xs:List Operand}{ps caps:List SP}{R:SP}{ats:Array TypeId}(hf:Ct P f (ps++caps) R)(hc:Lk Γ δ ρ x (clv f caps))(hx:Sf Γ δ ρ xs ps):
  OpOK P n ops Γ ρ δ τ ⟨some d,.call ⟨.value x,xs.toArray,ats⟩,ty,pos,af,none⟩ .no (.c R) ET:=by
 intro a c ob hs hwf hfa hr hres hno hown
 have hob:=hno rfl
 subst hob
 have hrd:=fun x' q hx' hq=>Lk.val (p:=q) (o:=⟨some d,.call ⟨.value x,xs.toArray,ats⟩,ty,pos,af,none⟩) hr hfa (x:=x') hx' hq
 obtain⟨capt,h1,h2⟩:=hrd x _ (by simp[Op.operands,Call.operands]) hc
 have hv:=hx.val (a:=a) (c:=c) fun x' q hx' hq=>hrd x' q (by simp[Op.operands,Call.operands,hx']) hq
 simp only[Region.wanted,if_true]
 unfold GP
 have hex:(execOp a.eval ⟨some d,.call ⟨.value x,xs.toArray,ats⟩,ty,pos,af,none⟩).run P c.w= .ok (.enter f (xs.map a.eval++capt).toArray) c.w:=by
  have h6:=EF hf.1 (xs.map a.eval++capt).toArray c.w
  simp[execOp,resolve,Deferred.ofValue,h1,invoke]at h6⊢
  simp[h6]
 rw[hex]
 exact(hf.2 _ c hwf ⟨hfa.2,hv.app h2⟩).mono fun e w' ⟨v,he,hxt,hR⟩=>⟨v,he,⟨w',c.M⟩,Ix,rfl,hxt.tr hwf Ix,hR,fun h=>(by cases h)⟩
theorem Jm{f:Nat}{x:Operand}{xs:List Operand}{ps caps:List SP}{R:SP}{r r':Res}{ats:Array TypeId}(k:Nat)(hf:En P f (ps++caps) r R r')(hc:Lk Γ δ ρ x (clv f caps))(hx:Sf Γ δ ρ xs ps)(hk:nth τ k=some (.c r)):
  OpOK P n ops Γ ρ δ τ ⟨some d,.call ⟨.value x,xs.toArray,ats⟩,ty,pos,af,none⟩ (.wr k) (.c R) (.c r'):=by
 intro a c ob hs hwf hfa hr hres hno hown
 obtain⟨r0,hr0,hh⟩:=hres k rfl
 rw[hk]at hr0
 cases hr0
 have hrd:=fun x' q hx' hq=>Lk.val (p:=q) (o:=⟨some d,.call ⟨.value x,xs.toArray,ats⟩,ty,pos,af,none⟩) hr hfa (x:=x') hx' hq
 obtain⟨capt,h1,h2⟩:=hrd x _ (by simp[Op.operands,Call.operands]) hc
 have hv:=hx.val (a:=a) (c:=c) fun x' q hx' hq=>hrd x' q (by simp[Op.operands,Call.operands,hx']) hq
 simp only[Region.wanted,if_true]
 unfold GP
 have hex:(execOp a.eval ⟨some d,.call ⟨.value x,xs.toArray,ats⟩,ty,pos,af,none⟩).run P c.w= .ok (.enter f (xs.map a.eval++capt).toArray) c.w:=by
  have h6:=EF hf.1 (xs.map a.eval++capt).toArray c.w
  simp[execOp,resolve,Deferred.ofValue,h1,invoke]at h6⊢
  simp[h6]
 rw[hex]
 refine(hf.2 _ c ob hwf ⟨hfa.2,hv.app h2⟩ hh fun b hb=>(hown b hb).1).mono fun e w' ⟨v,he,hxm,hR,hr'⟩=>⟨v,he,⟨w',c.M⟩,ob,rfl,?_,hR,fun _=>hr'⟩
 exact⟨hxm.os,hxm.tape,hxm.out,hxm.size,fun j hj hne=>hxm.heap j hj (hne rfl),fun _ _=>⟨id,.inl⟩,.inl rfl,fun j hj=>B4 (hwf j hj) hxm.size⟩
theorem lu{x:Operand}{T:TypeId}{t':TypeId}{ms:Array (String×TypeId)}(hT:P.underlying T=some (.interface ms))(hx:Lk Γ δ ρ x (CW .nilIface)):
  OpOK P n ops Γ ρ δ τ ⟨some d,.binOp .eql T x (.const .nilIface) t',ty,pos,af,none⟩ .no (.c (CW (.bool true))) ET:=
 DE fun A c _ hr=>by
  have h1:=(hr x _ (by simp[Op.operands]) hx).1
  have h2:A.eval (.const .nilIface)= .nilIface:=rfl
  have h3: ∀ d:Nat,(Op.equalIn (d+1) T .nilIface .nilIface).run P c.w= .ok true c.w:=fun d=>by simp[Op.equalIn,run_underlying hT]
  have hrun:(binOp .eql T .nilIface .nilIface).run P c.w= .ok (.bool true) c.w:=by
   simp only[binOp]
   simp[Op.equal,Op.maxDepth,h3 9999]
  have hg:(eqGuard .eql T x (.const .nilIface) .nilIface .nilIface)=pure ():=by cases x<;>rfl
  exact⟨.bool true,by simp[execOp,h1,h2,hg,hrun],rfl,rfl⟩
end ops
def ay(v:Value):Deferred:=match v with| .func f fs cap=>{target:= .fn f cap,args:=fs}|_=>default
def gQ(P:Program)(f:Nat)(ps:List SP)(r r':Res):Prop:=
 V9 P f∧ ∀ (vs:List Value) (c:EW) (ob:Bs),(∀ k,c.M k→k<c.w.heap.size)→FG c∧HL ps vs c→r.H c ob→(∀ b,ob b→c.M b)→CallsD P f vs.toArray .returning c.w (fun e u' w'=> ∃ v,e= .returned v∧u'= .returning∧Xm c ob w'∧r'.H ⟨w',c.M⟩ ob)
theorem TT{P:Program}{fn:Func}{ps:List SP}{r:Res}(hl:Nat.ble ps.length fn.ntmps=true){vs:List Value}{c:EW}{ob:Bs}(hwf: ∀ k,c.M k→k<c.w.heap.size)(hg:FG c)(hv:HL ps vs c)(hr:r.H c ob)(hM: ∀ b,ob b→c.M b):
  St ⟨P,fn.ntmps,c,fun b=>ob b,[]⟩ [] (IX 0 ps) [r] {tmps:=vs.toArray++Array.replicate (fn.ntmps-vs.toArray.size) undef,defers:=[]} c:=by
 have hl':ps.length≤fn.ntmps:=A8 hl
 have hlen:=hv.len
 refine⟨?_,rfl,⟨fun v p hm=>(by cases hm),hg⟩,fun t p hp=>?_,fun k=>if k=0 then ob else Ix,?_,fun k r0 hr0=>?_⟩
 ·simp;omega
 ·obtain⟨_,hp'⟩:=If hp
  rw[Nat.sub_zero]at hp'
  obtain⟨v,h1,h2⟩:=hv.nth t p hp'
  have ht:=(AU.1 h1).1
  have:vl {tmps:=vs.toArray++Array.replicate (fn.ntmps-vs.toArray.size) undef,defers:=[]} t=v:=by
   unfold vl
   simp only[Cd]
   rw[CE (by simpa using ht)]
   simp[h1]
  rw[this]
  exact h2
 ·refine⟨rfl,rfl,rfl,A5 _,fun _ _ _=>rfl,fun _ _=>⟨id,.inl⟩,hwf,fun k b hb=>?_,fun i j b hi hj=>?_,hwf⟩
  ·by_cases hk:k=0
   ·rw[if_pos hk]at hb;exact⟨hM b hb,.inr hb⟩
   rw[if_neg hk]at hb;cases hb
  by_cases hi0:i=0
  ·by_cases hj0:j=0
   ·rw[hi0,hj0]
   rw[if_neg hj0]at hj;cases hj
  rw[if_neg hi0]at hi;cases hi
 cases k with
 |zero=>simp only[nth,Ah]at hr0;subst hr0;simpa using hr
 |succ k=>simp[nth]at hr0
theorem gQ.of{P:Program}{f:Nat}{fn:Func}{k:Code}{ps:List SP}{r r':Res}(hf:P.funcs[f]? =some fn)(hb:fn.body=some k)(hn:(fn.name== "runtime.NumGoroutine")=false)(hl:Nat.ble ps.length fn.ntmps=true)(hfix:Y3 r r')
  (h: ∀ (c0:EW) (ob:Bs),r.H c0 ob→J ⟨P,fn.ntmps,c0,fun b=>ob b,[]⟩ [] (IX 0 ps) [r] k (bodyPost P fn (ig c0 ob Ge r'))):gQ P f ps r r':=by
 refine⟨⟨fn,hf,hn,by rw[hb];rfl⟩,fun vs c ob hwf ⟨hg,hv⟩ hr hM=>?_⟩
 refine(callsD_of_wp hf hb (h c ob hr _ c (TT hl hwf hg hv hr hM))).mono fun e u' w' ⟨hu,v,he,hxm,_,hr'⟩=>⟨v,he,hu,hxm,hr'⟩
def wW(P:Program)(fn:Func)(R:Ending→World→Prop):Act→World→Prop:=fun a w=>Leaves P fn a.tmps R a.defers .returning w
section run
variable {P:Program} {fn:Func} {n:Nat} {c0:EW} {E:Nat→Prop} {Γ:D2} {ρ:DU} {σ σ':List Res} {R:Ending→World→Prop}
theorem Tz{v:Value}{fid:Nat}{caps:List SP}{ds:List Deferred}{r r':Res}(k i:Nat)(hf:gQ P fid caps r r')(hv:nth Γ i=some (v,clv fid caps))(hk:nth σ k=some r)(hσ:EK σ k r'=σ')(h:JN ⟨P,n,c0,E,ds⟩ Γ ρ σ' (wW P fn R)):
  JN ⟨P,n,c0,E,ay v::ds⟩ Γ ρ σ (wW P fn R):=fun a c hs=>by
 subst hσ
 obtain⟨obs,hown,hres⟩:=hs.own
 obtain⟨capt,hv1,hv2⟩:=hs.facts.1 v _ (Un hv)
 have hd:a.defers=ay v::ds:=hs.defers
 show Leaves P fn a.tmps R a.defers .returning c.w
 rw[hd,hv1]
 have hinv:(invoke (.fn (.func fid) capt.toArray) #[]).run P c.w= .ok (.enter fid capt.toArray) c.w:=by
  have:=EF hf.1 capt.toArray c.w
  simpa[invoke]using this
 refine leaves_cons (by simp) hinv ((hf.2 capt c (obs k) hown.wf ⟨hs.facts.2,hv2⟩ (hres k r hk) fun b hb=>(hown.has k b hb).1).mono ?_)
 rintro e u' w' ⟨x,he,hu,hxm,hr'⟩
 subst he;subst hu
 show Leaves P fn a.tmps R ds .returning w'
 have htr:Tr c (obs k) true ⟨w',c.M⟩ (obs k):=⟨hxm.os,hxm.tape,hxm.out,hxm.size,fun j hj hne=>hxm.heap j hj (hne rfl),fun _ _=>⟨id,.inl⟩,.inl rfl,fun j hj=>B4 (hown.wf j hj) hxm.size⟩
 have hle:Le c ⟨w',c.M⟩:=htr.le fun b hb=>(hown.has k b hb).1
 refine h {a with defers:=ds} ⟨w',c.M⟩ ⟨hs.size,rfl,hs.facts.le hle,hs.env.le hle,Xp obs k (obs k),hown.wr rfl htr,fun j q hj=>?_⟩
 rw[G3]at hj
 unfold Xp
 by_cases hjk:j=k
 ·rw[if_pos hjk]at hj
  rw[if_pos hjk]
  subst hjk
  rw[hk]at hj
  cases hj
  exact hr'
 rw[if_neg hjk]at hj
 rw[if_neg hjk]
 exact q.fr _ _ _ hle (fun b hb=>htr.heap b (hown.lt hb) fun _ e=>hjk (hown.one j k b hb e)) (hres j q hj)
theorem PX{R:SP}{ps:List SP}(hr:ox P Γ ρ σ fn.results.toList ps)(hR: ∀ v c,FH Γ c→(UH ps).H v c→R.H v c):JN ⟨P,n,c0,fun _=>False,[]⟩ Γ ρ σ (wW P fn (Yj c0 R)):=fun a c hs=>by
 obtain⟨hd,v,h1,h2⟩:=zQ hr hR a c hs
 show Leaves P fn a.tmps _ a.defers .returning c.w
 rw[hd]
 exact⟨v,h1,h2⟩
theorem Yb{X:Cx}{Γ':D2}{ρ':DU}(h:JN X Γ' ρ' σ (wW P fn R)):JN X Γ' ρ' σ (bodyPostD P fn R .ret):=h
end run
theorem Ct.ofD{P:Program}{f:Nat}{fn:Func}{k:Code}{ps:List SP}{R:SP}(hf:P.funcs[f]? =some fn)(hb:fn.body=some k)(hn:(fn.name== "runtime.NumGoroutine")=false)(hl:Nat.ble ps.length fn.ntmps=true)
  (h: ∀ c0:EW,J ⟨P,fn.ntmps,c0,fun _=>False,[]⟩ [] (IX 0 ps) [] k (bodyPostD P fn (Yj c0 R))):Ct P f ps R:=by
 refine⟨⟨fn,hf,hn,by rw[hb];rfl⟩,fun vs c hwf ⟨hg,hv⟩=>calls_of_wp_defers hf hb ?_⟩
 have hst:=TT (P:=P) (fn:=fn) (r:=Go.Bn.emp) (ob:=Ix) hl hwf hg hv rfl (fun b hb=>by cases hb)
 obtain⟨obs,hown,hres⟩:=hst.own
 exact h c _ c ⟨hst.size,hst.defers,hst.facts,hst.env,fun _=>Ix,{hown with has:=fun k b hb=>(by cases hb),one:=fun _ _ _ h=>(by cases h)},fun k r hr=>(by simp[nth]at hr)⟩
section defer
variable {X:Cx} {Γ:D2} {ρ:DU} {σ:List Res} {Q:Exit→Act→World→Prop}
theorem Qx{x:Operand}{fid:Nat}{caps:List SP}{ty:TypeId}{pos:String}{af:Array Edge}(hx:Lk Γ [] ρ x (clv fid caps))(h: ∀ v:Value,JN ⟨X.P,X.n,X.c0,X.E,ay v::X.df⟩ ((v,clv fid caps)::Γ) ρ σ (Q .normal)):
  JO X Γ ρ σ [⟨none,.defer ⟨.value x,#[],#[]⟩,ty,pos,af,none⟩] Q:=fun a c hs=>by
 have hv:=hx.holds hs.facts hs.env
 obtain⟨capt,h1,h2⟩:=hv
 have he: ∀ o:Oper,wpOps X.P [o].toArray Q (List.range [o].length) a c.w=(if Region.wanted o (yielded [o].toArray a.tmps)then Oper.wp X.P o a c.w (wpOps X.P [o].toArray Q []) Q∨(o.asks X.P a c.w∧LetsOut Q)else wpOps X.P [o].toArray Q [] (a.put o.dst undef) c.w):=fun o=>rfl
 rw[he,PM rfl,if_pos rfl]
 refine .inl ?_
 unfold Oper.wp
 have hex:(execOp a.eval ⟨none,.defer ⟨.value x,#[],#[]⟩,ty,pos,af,none⟩).run X.P c.w= .ok (.defer (ay (a.eval x))) c.w:=by
  simp[execOp,resolve,Deferred.ofValue,h1,ay]
 rw[hex]
 show Q .normal _ c.w
 refine h (a.eval x) {a with defers:=ay (a.eval x)::a.defers} c ⟨hs.size,by rw[hs.defers],⟨fun v p hm=>?_,hs.facts.2⟩,hs.env,hs.own⟩
 rcases AH.1 hm with he|hm
 ·cases he;exact⟨capt,h1,h2⟩
 exact hs.facts.1 v p hm
end defer
def Hh(o:Oper):Oper:=match o.op with
 | .call ⟨.builtin .recover,_,_⟩=>⟨o.dst,.move (.const .nilIface),o.type,o.pos,o.after,o.guard⟩
 |_=>o
theorem Pz(o:Oper):(Hh o=o∧ ∀ a ts,o.op≠ .call ⟨.builtin .recover,a,ts⟩)∨ ∃ a ts,o.op= .call ⟨.builtin .recover,a,ts⟩∧Hh o=⟨o.dst,.move (.const .nilIface),o.type,o.pos,o.after,o.guard⟩:=by
 unfold Hh
 split
 ·rename_i a ts h
  exact .inr ⟨a,ts,h,rfl⟩
 rename_i h
 exact .inl ⟨rfl,fun a ts e=>h a ts e⟩
theorem L3(o:Oper):(Hh o).dst=o.dst∧(Hh o).after=o.after∧(Hh o).guard=o.guard:=by
 rcases Pz o with ⟨h,_⟩|⟨a,ts,_,h⟩<;>rw[h]<;>exact⟨rfl,rfl,rfl⟩
theorem T6(md:Region.Mode)(l:List Oper): ∀ (fuel t:Nat) (listed:Array Bool) (acc:List Nat),Region.linearise.go md (l.map Hh).toArray fuel t listed acc=Region.linearise.go md l.toArray fuel t listed acc
 |0,_,_,_=>rfl
 |fuel+1,t,listed,acc=>by
  have hrs:((List.range (l.map Hh).toArray.size).filter fun i=> !listed.getD i true&&(((l.map Hh).toArray[i]?).map (·.after.all fun e=> !Region.binds md e||listed.getD e.on false)).getD false)=((List.range l.toArray.size).filter fun i=> !listed.getD i true&&((l.toArray[i]?).map (·.after.all fun e=> !Region.binds md e||listed.getD e.on false)).getD false):=by
   have h1:(l.map Hh).toArray.size=l.toArray.size:=by simp
   rw[h1]
   congr 1
   funext i
   have h2:((l.map Hh).toArray[i]?).map (fun o:Oper=>o.after.all fun e=> !Region.binds md e||listed.getD e.on false)=(l.toArray[i]?).map (fun o:Oper=>o.after.all fun e=> !Region.binds md e||listed.getD e.on false):=by
    simp only[Cy,AC,Option.map_map]
    congr 1
    funext o
    simp only[Function.comp,(L3 o).2.1]
   rw[h2]
  simp only[Region.linearise.go,hrs]
  split
  ·exact T6 md l fuel _ _ _
  rfl
theorem ZL{P:Program}{o:Oper}{a:Act}{K K':Act→World→Prop}{Q Q':Exit→Act→World→Prop}(hK: ∀ a w,K a w→K' a w)(hQ: ∀ e a w,Q e a w→Q' e a w){r:Result Go.Next}(h:o.upon P a K Q r):o.upon P a K' Q' r:=by
 cases r with
 |ok n w'=>
  cases n<;>simp only[Oper.upon]at h⊢ <;>
   first
    |exact hK _ _ h
    |exact Calls.mono h (fun e w'' he=>by
      cases e with
      |returned v=>exact hK _ _ he
      |panicked ch=>exact hQ _ _ _ he
      |outgrown=>obtain⟨a0,w0,h0⟩:=he;exact⟨a0,w0,hQ _ _ _ h0⟩)
    |exact Rows.mono h (fun _ _ he=>hK _ _ he)
    |exact h
 |halt x w'=>
  cases x<;>simp only[Oper.upon]at h⊢
  all_goals first|exact hQ _ _ _ h|exact h
theorem KA{P:Program}{l:List Oper}{Q:Exit→Act→World→Prop}{cs:List Frame}(hcs:recoverD cs=none)(hQ: ¬LetsOut Q): ∀ (ks:List Nat) (a:Act) (w:World),wpOps P (l.map Hh).toArray Q ks a w→wpOpsS P l.toArray (fun e a cs' w=>cs'=cs∧Q e a w) ks a cs w
 |[],a,w,h=>⟨rfl,h⟩
 |i::ks,a,w,h=>by
  have e1:(l.map Hh).toArray[i]? =(l.toArray[i]?).map Hh:=by simp
  simp only[wpOps,wpOpsS,e1]at h⊢
  cases ho:l.toArray[i]? with
  |none=>rw[ho]at h;exact KA hcs hQ ks a w h
  |some o=>
   rw[ho]at h
   simp only[AL]at h⊢
   have hy:yielded (l.map Hh).toArray a.tmps=yielded l.toArray a.tmps:=by
    funext j
    unfold yielded
    have:((l.map Hh).toArray[j]?).bind (·.dst)=(l.toArray[j]?).bind (·.dst):=by
     simp only[Cy,AC]
     cases l[j]? with
     |none=>rfl
     |some x=>simp[(L3 x).1]
    rw[this]
   have hw:Region.wanted (Hh o) (yielded (l.map Hh).toArray a.tmps)=Region.wanted o (yielded l.toArray a.tmps):=by
    rw[hy]
    unfold Region.wanted
    rw[(L3 o).2.2]
   rw[hw,(L3 o).1]at h
   split at h
   ·rename_i hwt
    rw[if_pos hwt]
    have h:=h.resolve_right fun h=>hQ h.2
    unfold Oper.wp at h
    rcases Pz o with ⟨h1,h2⟩|⟨x,ts,h1,h2⟩
    ·rw[h1]at h
     split
     ·rename_i w' hr
      rw[hr]at h
      exact h.elim
     exact ZL (fun a w h=>KA hcs hQ ks a w h) (fun e a w h=>⟨by first|trivial|rfl,h⟩) h
    have hex:(execOp a.eval o).run P w= .ok .recover w:=by
     obtain⟨d,op,ty,pos,af,g⟩:=o
     simp only at h1
     subst h1
     simp[execOp,resolve,invoke,builtin]
    rw[hex]
    simp only[hcs]
    rw[h2]at h
    have h:wpOps P (l.map Hh).toArray Q ks (a.put o.dst .nilIface) w:=h
    exact KA hcs hQ ks _ w h
   rename_i hwt
   rw[if_neg hwt]
   exact KA hcs hQ ks _ w h
def JA(X:Cx)(Γ:D2)(ρ:DU)(σ:List Res)(l:List Oper)(Q:Exit→Act→World→Prop):Prop:= ∀ a c,St X Γ ρ σ a c→ ∀ t,wpOps X.P l.toArray Q (Region.schedule true l.toArray t) a {c.w with drawn:=c.w.drawn+1}
theorem gX{X:Cx}{Γ:D2}{ρ:DU}{σ:List Res}{l:List Oper}{Q:Exit→Act→World→Prop}(anc:List (List Nat)){is:List Ei}{δ:DK}{τ:List VR}
  (hs:Steps X.P X.n l.toArray Γ ρ [] (FC σ) l is δ τ) (hc:PE true X.n l is σ.length anc=true) (h: ∀ g,Next X Γ ρ δ τ g (Q .normal)):JA X Γ ρ σ l Q:=by
 intro a c hst t
 obtain⟨obs,hown,hres⟩:=hst.own
 unfold PE at hc
 rw[Ao]at hc
 obtain⟨hc0,hc⟩:=hc
 simp only[RR,Ao]at hc
 obtain⟨⟨hc1,hc2⟩,hc3⟩:=hc
 obtain⟨g1,g2,g3,g4⟩:=hs.spec (k:=0) [] (fun j=>by simp) rfl (FC σ) rfl rfl
 simp only[Ck,Aq]at g2 g3 g4
 have hτ: ∀ k r,nth (FC σ) k=some r→r.D=[]:=fun k r hr=>by
  rw[Hy]at hr
  cases hn:nth σ k with
  |none=>rw[hn]at hr;cases hr
  |some r'=>rw[hn]at hr;cases hr;rfl
 have hτ0: ∀ k r,nth (FC σ) k=some r→ ∃ r',nth σ k=some r'∧r= .c r':=fun k r hr=>by
  rw[Hy]at hr
  cases hn:nth σ k with
  |none=>rw[hn]at hr;cases hr
  |some r'=>rw[hn]at hr;cases hr;exact⟨r',rfl,rfl⟩
 have hsz:l.toArray.size=l.length:=by simp
 have hops: ∀ i o ii,l.toArray[i]? =some o→is[i]? =some ii→uj X.P X.n l.toArray Γ ρ (GL l.toArray is (fun _=>true) i) (G5 l.toArray is (FC σ) (fun _=>true) i) o ii:=g4
 have hacc:K9 (FC σ).length is=true:=by simpa[FC]using hc2
 simp only[cond_true,Ao]at hc3
 obtain⟨⟨hc3,hc4⟩,hc5⟩:=hc3
 have hT:Tr c Ix false ⟨{c.w with drawn:=c.w.drawn+1},c.M⟩ Ix:=⟨rfl,rfl,rfl,A5 _,fun _ _ _=>rfl,fun _ _=>⟨fun h=>h,.inl⟩,.inl rfl,hown.wf⟩
 have hle:Le c ⟨{c.w with drawn:=c.w.drawn+1},c.M⟩:=hT.le (fun _ h=>by cases h)
 simp only[Region.schedule,Bool.true_or,if_true]
 refine wpAny_sound l.toArray.size t (Array.replicate l.toArray.size false) a {c.w with drawn:=c.w.drawn+1} (iy (c0:=X.c0) (E:=X.E) (df:=X.df) (τ:=FC σ) (n:=X.n) (Γ:=Γ) (ρ:=ρ) (is:=is) (by simpa using hc1) hacc hτ anc (by simpa using hc3) (by simpa using hc5) (by simpa using g1) (by rw[hsz];exact Bj hc4) hops (Um hc0) ?_
   l.toArray.size (Array.replicate l.toArray.size false) a ⟨{c.w with drawn:=c.w.drawn+1},c.M⟩ obs (by simp) ?_ ?_ ?_)
 ·intro L a' c' obs' hL hI
  exact(hI.fin (δ:=δ) (τ':=τ) (by rw[hsz];exact g2) (by rw[hsz];exact g3) hL).next h
 ·unfold left
  refine Ak (List.length_filter_le _ _) (by simp)
 ·intro j hj
  by_cases hjl:j<l.length<;>simp[Array.getElem?_replicate,hjl]at hj
 have hf:(fun j=>(Array.replicate l.toArray.size false).getD j false)=fun _:Nat=>false:=by
  funext j
  by_cases hjl:j<l.length<;>simp[Array.getElem?_replicate,hjl]
 rw[hf]
 refine ZS.start hst.size hst.defers (hst.facts.le hle) (fun t p hp=>p.st _ _ _ hle (hst.env t p hp)) (hown.no hT) fun k r hr=>?_
 obtain⟨r',hr',rfl⟩:=hτ0 k r hr
 exact r'.fr _ _ _ hle (fun _ _=>rfl) (hres k r' hr')
theorem gQ.ofRec{P:Program}{f:Nat}{fn:Func}{id:Nat}{l:List Oper}{ps:List SP}{r r':Res}(hf:P.funcs[f]? =some fn)(hb:fn.body=some (.region id l.toArray true))(hn:(fn.name== "runtime.NumGoroutine")=false)(hm:P.follows .mixedOrders=true)(hl:Nat.ble ps.length fn.ntmps=true)
  (h: ∀ (c0:EW) (ob:Bs),r.H c0 ob→JA ⟨P,fn.ntmps,c0,fun b=>ob b,[]⟩ [] (IX 0 ps) [r] (l.map Hh) (bodyPost P fn (ig c0 ob Ge r'))):gQ P f ps r r':=by
 refine⟨⟨fn,hf,hn,by rw[hb];rfl⟩,fun vs c ob hwf ⟨hg,hv⟩ hr hM=>?_⟩
 refine callsD_of_wpS hf hb fun c₀ cs hc0=>?_
 have hrec:recoverD (c₀::cs)=none:=by unfold recoverD;simp only[hc0]
 intro b k hbk hbr
 have h0:=h c ob hr _ c (TT hl hwf hg hv hr hM) (c.w.tape c.w.drawn (.order b.fn id))
 have hsch:Region.schedule true (l.map Hh).toArray (c.w.tape c.w.drawn (.order b.fn id))=Region.schedule (P.follows .mixedOrders) l.toArray (c.w.tape c.w.drawn (.order b.fn id)):=by
  rw[hm]
  simp only[Region.schedule,Bool.true_or,if_true,Region.linearise]
  rw[T6]
  simp
 rw[hsch]at h0
 have hlo: ¬LetsOut (bodyPost P fn (ig c ob Ge r')):=fun⟨a,w,v,he,_⟩=>by cases he
 have h1:=KA hrec hlo _ _ _ h0
 obtain⟨e,a',cs',w',hq,harr⟩:=wp_opsS _ _ _ _ h1 b k hbk hbr
 refine⟨e,a',cs',w',?_,.of_steps (.one step_region_draw) harr⟩
 obtain⟨hcs,hq⟩:=hq
 subst hcs
 have hmode:({c₀ with mode:= .returning}:Frame)=c₀:=by rw[←hc0]
 cases e with
 |normal=>
  obtain⟨hd,v,hres,x,he,hxm,_,hr'⟩:=hq
  cases he
  exact⟨hd,.returning,by rw[hmode],v,hres,v,rfl,rfl,hxm,hr'⟩
 |ret=>
  obtain⟨hd,v,hres,x,he,hxm,_,hr'⟩:=hq
  cases he
  exact⟨hd,.returning,by rw[hmode],v,hres,v,rfl,rfl,hxm,hr'⟩
 |panic ch=>obtain⟨_,v,he,_⟩:=hq;cases he
 |outgrown=>obtain⟨v,he,_⟩:=hq;cases he
 |exit id=>exact hq.elim
 |goto l=>exact hq.elim
section scope
variable {X:Cx} {Γ:D2} {ρ:DU} {σ:List Res} {Q:Exit→Act→World→Prop}
theorem ZV{c:Code}(h:J X Γ ρ σ c (Exit.noGoto Q)):J X Γ ρ σ (.scope c) Q:=fun a c hs=>wp_scope_straight (h a c hs)
theorem ZU{l:Nat}(h:JN X Γ ρ σ (Q .normal)):J X Γ ρ σ (.label l) Q:=fun a c hs=>wp_label (h a c hs)
theorem gY(h:JN X Γ ρ σ (Q .normal)):JN X Γ ρ σ (Exit.noGoto Q .normal):=h
theorem H0(h:JN X Γ ρ σ (Q .ret)):JN X Γ ρ σ (Exit.noGoto Q .ret):=h
end scope
def bnd(fid:Nat)(ps:List SP):SP:=⟨fun v c=> ∃ fs:List Value,v= .func (.func fid) fs.toArray #[]∧HL ps fs c,by
 rintro v c c' hle ⟨fs,h1,h2⟩
 exact⟨fs,h1,h2.st hle⟩⟩
theorem Lk.clv{Γ:D2}{δ:DK}{ρ:DU}{f:Nat}:Lk Γ δ ρ (.func f) (clv f []):=fun c hf=>⟨[],rfl,trivial⟩
section ops
variable {P:Program} {n:Nat} {ops:Array Oper} {Γ:D2} {ρ:DU} {δ:DK} {τ:List VR}
variable {d:Nat} {ty:TypeId} {pos:String} {af:Array Edge}
theorem Uv{fid:Nat}{xs:List Operand}{ps:List SP}(hx:Sf Γ δ ρ xs ps):
  OpOK P n ops Γ ρ δ τ ⟨some d,.makeFunc (.func fid) xs.toArray #[],ty,pos,af,none⟩ .no (.c (bnd fid ps)) ET:=
 DE fun a c hfa hr=>⟨.func (.func fid) (xs.map a.eval).toArray #[],by simp[execOp,Instr.makeFunc],xs.map a.eval,rfl,hx.val (a:=a) (c:=c) fun x q hx' hq=>hr x q (by simpa[Op.operands]using hx') hq⟩
theorem fb{f:Nat}{x:Operand}{ps:List SP}{R:SP}{r r':Res}{ats:Array TypeId}(k:Nat)(hf:En P f ps r R r')(hc:Lk Γ δ ρ x (bnd f ps))(hk:nth τ k=some (.c r)):
  OpOK P n ops Γ ρ δ τ ⟨some d,.call ⟨.value x,#[],ats⟩,ty,pos,af,none⟩ (.wr k) (.c R) (.c r'):=by
 intro a c ob hs hwf hfa hr hres hno hown
 obtain⟨r0,hr0,hh⟩:=hres k rfl
 rw[hk]at hr0
 cases hr0
 have hrd:=fun x' q hx' hq=>Lk.val (p:=q) (o:=⟨some d,.call ⟨.value x,#[],ats⟩,ty,pos,af,none⟩) hr hfa (x:=x') hx' hq
 obtain⟨fs,h1,h2⟩:=hrd x _ (by simp[Op.operands,Call.operands]) hc
 simp only[Region.wanted,if_true]
 unfold GP
 have hex:(execOp a.eval ⟨some d,.call ⟨.value x,#[],ats⟩,ty,pos,af,none⟩).run P c.w= .ok (.enter f fs.toArray) c.w:=by
  have h6:=EF hf.1 fs.toArray c.w
  simp[execOp,resolve,Deferred.ofValue,h1,invoke]at h6⊢
  simp[h6]
 rw[hex]
 refine(hf.2 _ c ob hwf ⟨hfa.2,h2⟩ hh fun b hb=>(hown b hb).1).mono fun e w' ⟨v,he,hxm,hR,hr'⟩=>⟨v,he,⟨w',c.M⟩,ob,rfl,?_,hR,fun _=>hr'⟩
 exact⟨hxm.os,hxm.tape,hxm.out,hxm.size,fun j hj hne=>hxm.heap j hj (hne rfl),fun _ _=>⟨id,.inl⟩,.inl rfl,fun j hj=>B4 (hwf j hj) hxm.size⟩
end ops
def VV(u:Value)(cs:List SP)(U:TypeId):VR→Prop:=fun r=> ∃ b:Bool,r= .c (Dh u (CW (.bool b)::cs) U)
section ops
variable {P:Program} {n:Nat} {ops:Array Oper} {Γ:D2} {ρ:DU} {δ:DK} {τ:List VR}
variable {d:Nat} {ty:TypeId} {pos:String} {af:Array Edge}
theorem Ew{τ:List VR}{k:Nat}{u:Value}{b:Bool}{cs:List SP}{U:TypeId}(h:nth τ k=some (.c (Dh u (CW (.bool b)::cs) U))): ∃ x,nth τ k=some x∧VV u cs U x:=⟨_,h,b,rfl⟩
theorem EB{x:Operand}{T U:TypeId}{u:Value}{off:Nat}{cs:List SP}{p:SP}(k:Nat)(hT:KF P T=true)(hx:Lk Γ δ ρ x (DW u (off+1)))(hp:nth cs off=some p)(τ1:List VR)(h: ∃ r,nth τ1 k=some r∧VV u cs U r):
  OpOK P n ops Γ ρ δ τ1 ⟨some d,.load T x,ty,pos,af,none⟩ (.rd k) (.c p) ET:=by
 obtain⟨r,h1,b,h2⟩:=h
 subst h2
 exact zN k hT hx h1 zJ hp
theorem L4{x:Operand}{T U m:TypeId}{u:Value}{off:Nat}{cs cs':List SP}(k:Nat)(hT:MW P T=some m)(hx:Lk Γ δ ρ x (DW u (off+1)))(hs:I3 off m cs=some cs')(hm:Nat.blt 0 m=true)(τ1:List VR)(h: ∃ r,nth τ1 k=some r∧VV u cs U r):
  OpOK P n ops Γ ρ δ τ1 ⟨some d,.load T x,ty,pos,af,none⟩ (.rd k) (.c (DL cs')) ET:=by
 obtain⟨r,h1,b,h2⟩:=h
 subst h2
 exact yI k hT hx h1 zJ hs hm
end ops
def du(bf:Nat→Nat→Bool)(i k:Nat)(ex:List Nat):Nat→List Ei→Bool
 |_,[]=>true
 |j,ij::l=>(!ij.acc.isW k||bf i j||ex.contains j)&&du bf i k ex (j+1) l
def rdK:Jg→Nat
 | .rd k=>k
 |_=>0
def Xi(bf:Nat→Nat→Bool)(all:List Ei)(rl:List (Nat×List Nat)):Nat→List Ei→Bool
 |_,[]=>true
 |i,ii::l=>(ii.q.isNone||rl.any fun x=>Nat.beq x.1 i&&du bf i (rdK ii.acc) x.2 0 all)&&Xi bf all rl (i+1) l
def RsE(is:List Ei)(u:Value)(cs:List SP)(U:TypeId):List Nat→Prop
 |[]=>True
 |j::l=>(∃ b:Bool,(nth is j).map Ei.r=some (.c (Dh u (CW (.bool b)::cs) U)))∧RsE is u cs U l
def xQ(τ:List VR)(is:List Ei)(x:Nat×List Nat):Prop:= ∃ k u cs U,(nth is x.1).map Ei.q=some (some (VV u cs U))∧(nth is x.1).map Ei.acc=some (.rd k)∧(∃ b:Bool,nth τ k=some (.c (Dh u (CW (.bool b)::cs) U)))∧RsE is u cs U x.2
def RsP(τ:List VR)(is:List Ei):List (Nat×List Nat)→Prop
 |[]=>True
 |x::l=>xQ τ is x∧RsP τ is l
theorem mR{is:List Ei}{u:Value}{cs:List SP}{U:TypeId}: ∀ {l:List Nat},RsE is u cs U l→ ∀ j,j∈l→ ∀ ij,is[j]? =some ij→VV u cs U ij.r
 |[],_,j,h,_,_=>by cases h
 |y::l,⟨h1,h2⟩,j,h,ij,hij=>by
  rcases AH.1 h with rfl|h
  ·obtain⟨b,hb⟩:=h1
   rw[Dq,hij]at hb
   exact⟨b,by simpa using hb⟩
  exact mR h2 j h ij hij
theorem mS{τ:List VR}{is:List Ei}: ∀ {l:List (Nat×List Nat)},RsP τ is l→ ∀ x,x∈l→xQ τ is x
 |[],_,x,h=>by cases h
 |y::l,⟨h1,h2⟩,x,h=>by
  rcases AH.1 h with rfl|h
  ·exact h1
  exact mS h2 x h
theorem aj{bf:Nat→Nat→Bool}{i k:Nat}{ex:List Nat}: ∀ {l:List Ei} {m:Nat},du bf i k ex m l=true→ ∀ j ij,l[j]? =some ij→ij.acc.isW k=true→bf i (m+j)=true∨m+j∈ex
 |[],m,_,j,ij,h,_=>by simp at h
 |y::l,m,hc,0,ij,h,hw=>by
  simp only[du,Ao,Bm,Cu]at hc
  simp only[C2,Ah]at h
  subst h
  rcases hc.1 with (h|h)|h
  ·rw[hw]at h;cases h
  ·exact .inl h
  exact .inr (by simpa using h)
 |y::l,m,hc,j+1,ij,h,hw=>by
  simp only[du,Ao]at hc
  have:=aj hc.2 j ij (by simpa using h) hw
  rw[show m+1+j=m+(j+1) by omega]at this
  exact this
theorem Xj{bf:Nat→Nat→Bool}{all:List Ei}{rl:List (Nat×List Nat)}: ∀ {l:List Ei} {m:Nat},Xi bf all rl m l=true→ ∀ i ii,l[i]? =some ii→ii.q.isNone=false→ ∃ x,x∈rl∧x.1=m+i∧du bf (m+i) (rdK ii.acc) x.2 0 all=true
 |[],m,_,i,ii,h,_=>by simp at h
 |y::l,m,hc,0,ii,h,hn=>by
  simp only[Xi,Ao,Bm]at hc
  simp only[C2,Ah]at h
  subst h
  rcases hc.1 with h|h
  ·rw[hn]at h;cases h
  obtain⟨x,hx,hb⟩:=List.any_eq_true.1 h
  rw[Ao]at hb
  exact⟨x,hx,Bj hb.1,hb.2⟩
 |y::l,m,hc,i+1,ii,h,hn=>by
  simp only[Xi,Ao]at hc
  have:=Xj hc.2 i ii (by simpa using h) hn
  rw[show m+1+i=m+(i+1) by omega]at this
  exact this
theorem Ga{bf:Nat→Nat→Bool}{τ:List VR}{is:List Ei}(rl:List (Nat×List Nat))(h1:Xi bf is rl 0 is=true)(h2:RsP τ is rl):cX bf τ is:=fun i ii q k hi hq hk=>by
 obtain⟨x,hx,he,hw⟩:=Xj h1 i ii hi (by rw[hq];rfl)
 rw[Aq]at he hw
 obtain⟨k',u,cs,U,g1,g2,⟨b,g3⟩,g4⟩:=mS h2 x hx
 rw[he,Dq,hi,AL,hq]at g1
 rw[he,Dq,hi,AL,hk]at g2
 cases g1
 cases g2
 rw[hk]at hw
 refine⟨fun r hr=>?_,fun j ij hj hjw=>?_⟩
 ·rw[g3]at hr
  cases hr
  exact⟨b,rfl⟩
 have:=aj hw j ij hj hjw
 rw[Aq]at this
 exact this.imp id fun h=>mR g4 j h ij hj
theorem wB{xs:List Nat}{v:Value}{c:EW}(h:(Dp xs).H v c): ∀ x,x∈xs→x<2^64:=fun x hx=>by
 obtain⟨i,hi,he⟩:=List.getElem_of_mem hx
 rcases h.2 with ⟨_,h0⟩|⟨ad,cap,_,_,_,h0|⟨b,off,_,_,cur,T,fz,_,h6⟩⟩
 ·rw[Az]at h0;omega
 ·rw[Az]at h0;omega
 obtain⟨u,_,_,y,_,hy,hc⟩:=h6 i (Dm x) (by rw[Dq,AC,Ag hi,he];rfl)
 rw[←hc]
 exact au hy
theorem Qz{X:Cx}{Γ:D2}{ρ:DU}{σ:List Res}{k:Code}{Q:Exit→Act→World→Prop}(t:Nat){r c:Int}{xs:List Nat}(h:ρ.get t=some (EY r c xs))(hk:(∀ x,x∈xs→x<2^64)→J X Γ ρ σ k Q):J X Γ ρ σ k Q:=fun a w hs=>by
 obtain⟨cs,_,_,h3⟩:=hs.env t _ h
 obtain⟨u,_,_,hu⟩:=h3 2 _ rfl
 exact hk (wB hu) a w hs
theorem OH.last{P:Program}{f:Nat}{ps:List SP}{pr:Value→Value}{R:Value→SP}{r:Value→Res}{p:SP}(h:OH P f ps pr R r)(hl: ∀ u,PO (r u) (R u) p):Ct P f ps p:=
 ⟨h.1,fun vs c hwf hv=>(h.2 vs c hwf hv).mono fun e w' ⟨v,ob,he,hxt,hlt,hR,hr⟩=>by
  refine⟨v,he,hxt,hl _ ⟨w',fun k=>c.M k∨ob k⟩ ⟨w',c.M⟩ ob v hr hR ⟨rfl,rfl,rfl,A5 _,fun k _ hm=>⟨rfl,fun h=>hm (.inl h)⟩⟩ fun b hb=>⟨rfl,fun h=>?_⟩⟩
  have:=hwf b h
  have:=(hlt b hb).1
  omega⟩
def QM(n:Nat)(Q:List Nat):Nat→Nat→Rat:=fun i j=>Hc (Q.getD (i*n+j) 0)
def DM(n:Nat)(A B:List Nat):Nat→Nat→Rat:=fun i j=>QM n B i j-QM n A i j
theorem No{n r j:Nat}{Q:List Nat}(hl:Q.length=n*n)(hr:r<n)(hj:j<n):(Q.map Hc).getD (r*n+j) 0=QM n Q r j:=by
 have hk:r*n+j<Q.length:=by rw[hl];exact Kf hr hj
 unfold QM
 simp only[List.getD,AC,Ag hk,AL,Cc]
structure MQ(n:Nat)(Q:List Nat):Prop where
 n12:n≤12
 len:Q.length=n*n
 fin: ∀ k,k<Q.length→DF (Q.getD k 0)=true
 lt: ∀ k,k<Q.length→Q.getD k 0<2^64
 Gs:Gs (n:Int) (n:Int) Q=0
theorem WC{n:Nat}{Q:List Nat}(hk:Gs (n:Int) (n:Int) Q=0)(h: ∀ x,x∈Q→x<2^64):MQ n Q:=by
 have hg:=Eg hk
 have hln:=hg.2
 refine⟨by have:=hg.1.2.1;omega,by rw[←Ad]at hln;omega,fun k hk'=>ak hk hk',fun k hk'=>h _ (IJ 0 hk'),hk⟩
theorem MQ.ql{n:Nat}{Q:List Nat}(h:MQ n Q):(Q.map Hc).length=n*n:=by rw[Az];exact h.len
theorem MQ.sz{n:Nat}{Q:List Nat}(h:MQ n Q)(i j:Nat)(hi:i<n)(hj:j<n):FV 20 (QM n Q i j):=by
 have hk:i*n+j<Q.length:=by rw[h.len];exact Kf hi hj
 exact pF (h.fin _ hk) (h.lt _ hk)
theorem MQ.sz45{n:Nat}{Q:List Nat}(h:MQ n Q)(i j:Nat)(hi:i<n)(hj:j<n):FV 45 (QM n Q i j):=(h.sz i j hi hj).mono (by omega)
theorem MQ.szl{n:Nat}{Q:List Nat}(h:MQ n Q)(m:Nat)(hm:m<n*n):FV 200000000 ((Q.map Hc).getD m 0):=Xh h.ql (fun r j hr hj=>No h.len hr hj) h.sz45 m (by rw[h.ql];exact hm)
theorem yg{n:Nat}{A B:List Nat}(ha:MQ n A)(hb:MQ n B)(i j:Nat)(hi:i<n)(hj:j<n):FV 45 (DM n A B i j):=((hb.sz i j hi hj).sub (ha.sz i j hi hj)).mono (by omega)
theorem ml{n:Nat}{Q:List Nat}(h:Gw (n:Int) (n:Int) Q=true)(i j:Nat)(hi:i<n)(hj:j<n):QM n Q i j=QM n Q j i:=by
 have hs:=(JB.1 h).2.2
 have key: ∀ a b:Nat,b<a→a<n→QM n Q a b=QM n Q b a:=fun a b h1 h2=>by
  have:=hs a b (by omega) (by omega) (by omega)
  unfold mat at this
  unfold QM
  rw[show((a:Int)*(n:Int)+(b:Int)).toNat=a*n+b by rw[←Ad,←Bf];rfl,show((b:Int)*(n:Int)+(a:Int)).toNat=b*n+a by rw[←Ad,←Bf];rfl]at this
  rw[this]
 rcases Nat.lt_trichotomy i j with h1|h1|h1
 ·exact(key j i h1 hj).symm
 ·rw[h1]
 exact key i j h1 hi
theorem bT{n:Nat}{Q:List Nat}(hm:MQ n Q)(h:Gw (n:Int) (n:Int) Q=true)(i j:Nat)(hi:i<n)(hj:j<n):(Q.map Hc).getD (i*n+j) 0=(Q.map Hc).getD (j*n+i) 0:=by rw[No hm.len hi hj,No hm.len hj hi,ml h i j hi hj]
theorem yf{n:Nat}{A B:List Nat}(ha:MQ n A)(hb:MQ n B)(r j:Nat)(hr:r<n)(hj:j<n):(B.map Hc).getD (r*n+j) 0-(A.map Hc).getD (r*n+j) 0=DM n A B r j:=by rw[No hb.len hr hj,No ha.len hr hj];rfl
theorem pA{n:Nat}{A:List Nat}:DM n A A=fun _ _=>0:=by
 funext i j
 exact Rat.sub_self
theorem qQ{x:Nat}(hx:x<2^64):(Gp .neq x x||Gp .gtr (Kc x) Vi)= !DF x:=by
 cases hf:DF x
 ·cases h:(Gp .neq x x||Gp .gtr (Kc x) Vi)
  ·have:=YI hx (by rw[Bool.or_comm];exact h)
   rw[hf]at this;cases this
  rfl
 rw[OQ,Ht hf,pQ hx ((Ko hx).1 hf)]
 rfl
section ops
variable {P:Program} {n:Nat} {ops:Array Oper} {Γ:D2} {ρ:DU} {δ:DK} {τ:List VR}
variable {ty:TypeId} {pos:String} {af:Array Edge}
theorem WV{x y:Operand}{T:TypeId}{base v:Value}{p:SP}{cs:List SP}{U:TypeId}(k:Nat)(hx:Lk Γ δ ρ x (DW base 0))(hy:Lk Γ δ ρ y (CW v))(hT:J5 P T=some 1)(hk:nth τ k=some (.c (Dh base (p::cs) U))):
  OpOK P n ops Γ ρ δ τ ⟨none,.store T x y,ty,pos,af,none⟩ (.wr k) (.c Ge) (.c (Dh base (CW v::cs) U)):=
 Kz (cells:=p::cs) (cells':=CW v::cs) k hx hy D7 hT hk (Oe (off:=0) (cells:=p::cs) (Nat.succ_pos _)) (Ru rfl)
end ops
def jc(xs ys:List Nat):Nat→Bool
 |0=>false
 |k+1=>(jc xs ys k|| !DF (Ft (xs.getD k 0) (ys.getD k 0)))|| !DF (VL xs ys (k+1))
def Ln(xs ys:List Nat):Bool:=jc xs ys xs.length
def vF(o:Nat→Bool)(k:Nat):Bool:=(List.range k).any o
theorem HY{o:Nat→Bool}:vF o 0=false:=rfl
theorem HX{o:Nat→Bool}{k:Nat}:vF o (k+1)=(vF o k||o k):=by
 unfold vF
 rw[List.range_succ,List.any_append]
 simp
theorem OC{o:Nat→Bool}{k i:Nat}(h:vF o k=false)(hi:i<k):o i=false:=by
 unfold vF at h
 have:=List.any_eq_false.1 h i (by simpa using hi)
 simpa using this
def VU(c:Int)(o:Int→Int→Bool)(t:Nat):Bool:=vF (fun k=>o ((k/c.toNat:Nat):Int) ((k % c.toNat:Nat):Int)) t
theorem QZ{c:Int}{o:Int→Int→Bool}{k m:Nat}(hm:m<c.toNat):VU c o (k*c.toNat+(m+1))=(VU c o (k*c.toNat+m)||o k m):=by
 unfold VU
 rw[←C6,HX]
 obtain⟨h1,h2⟩:=P6 (i:=k) hm
 rw[h1,h2]
def XP(o:Int→Int→Bool)(i j:Nat):Bool:=vF (fun a=>vF (fun b=>o a b) (a+1)) i||vF (fun b=>o i b) j
theorem nX{o:Int→Int→Bool}:XP o 0 0=false:=rfl
theorem nW{o:Int→Int→Bool}{i j:Nat}:XP o i (j+1)=(XP o i j||o i j):=by
 unfold XP
 rw[HX,AA]
theorem sL{o:Int→Int→Bool}{i q:Nat}(hq:q=i+1):XP o (i+1) 0=XP o i q:=by
 subst hq
 unfold XP
 rw[HX,HY,AM]
theorem Tw{o:Int→Int→Bool}{n i j:Int}(h:XP o n.toNat 0=false)(h0:0≤j)(h1:j≤i)(h2:i<n):o i j=false:=by
 unfold XP at h
 rw[HY,AM]at h
 have h4:vF (fun b:Nat=>o (i.toNat:Int) b) (i.toNat+1)=false:=OC (k:=n.toNat) (i:=i.toNat) h (by omega)
 have h3:=OC h4 (show j.toNat<i.toNat+1 by omega)
 rw[show((i.toNat:Nat):Int)=i by omega,show((j.toNat:Nat):Int)=j by omega]at h3
 exact h3
theorem Ui{n:Int}{g:Int→Int→Nat}(hs:KK n n)(h: ∀ i j,0≤j→j≤i→i<n→DF (g i j)=true):Gs n n (Nd n g)=0∧Gw n n (Nd n g)=true:=by
 have hf:(Nd n g).all DF=true:=by
  rw[B1]
  intro x hx
  unfold Nd GM at hx
  obtain⟨k,hk,rfl⟩:=List.mem_map.1 hx
  rw[List.mem_range]at hk
  have hc:0<n.toNat:=AS fun e=>by rw[e]at hk;omega
  have h1:k/n.toNat<n.toNat:=Nat.div_lt_of_lt_mul hk
  have h2:k % n.toNat<n.toNat:=Ap _ hc
  generalize k/n.toNat=p at*
  generalize k % n.toNat=q at*
  show DF (if(q:Int)≤(p:Int)then g p q else g q p)=true
  split
  ·exact h _ _ (by omega) (by omega) (by omega)
  exact h _ _ (by omega) (by omega) (by omega)
 exact⟨HG.2 ⟨W1 hs,hf⟩,sw hs hf⟩
structure I5 where
 x:List Nat
 r:Int
 c:Int
 a:List Nat
def XB(s:I5):List SP:=[Dp s.x,I6 s.r,I6 s.c,Dp s.a]
def Ny:I5:=⟨[],0,0,[]⟩
structure KR where
 s:I5
 e:Int
def rF(x:KR):SP:=EP [DL (XB x.s),I6 x.e]
def Sq(e:Int)(x:KR):KR:=if e=0 then x else⟨Ny,e⟩
theorem ED{e:Int}{x:KR}(h:e=0):Sq e x=x:=if_pos h
theorem Jw{e:Int}{x:KR}(h:e≠0):Sq e x=⟨Ny,e⟩:=if_neg h
noncomputable def KC (n:Int) (p:List Nat):Bool:=decide (GY (QM n.toNat p) n.toNat=3)
noncomputable def HK (s:I5):Int:=if Gs s.r s.c s.a≠0 then Gs s.r s.c s.a else if s.r≠s.c∨(s.x.length:Int)≠s.r then 3 else if s.x.all DF=false then 4 else if Gw s.r s.c s.a=false then 150 else if KC s.r s.a=false then 151 else 0
structure KOk(s:I5):Prop where
 k:Gs s.r s.r s.a=0
 c:s.c=s.r
 x:(s.x.length:Int)=s.r
 f:s.x.all DF=true
 y:Gw s.r s.r s.a=true
 p:KC s.r s.a=true
theorem J1{s:I5}:HK s=0↔KOk s:=by
 unfold HK
 constructor
 ·intro h
  split at h
  ·rename_i h1;exact absurd h h1
  rename_i h1
  split at h
  ·cases h
  rename_i h2
  split at h
  ·cases h
  rename_i h3
  split at h
  ·cases h
  rename_i h4
  split at h
  ·cases h
  rename_i h5
  have h1':Gs s.r s.c s.a=0:=Aj h1
  have e:s.r=s.c:=Aj fun e=>h2 (.inl e)
  rw[←e]at h1' h4
  exact⟨h1',e.symm,Aj fun e=>h2 (.inr e),by simpa using h3,by simpa using h4,by simpa using h5⟩
 rintro ⟨h1,h2,h3,h4,h5,h6⟩
 rw[h2,if_neg (by simp[h1]),if_neg (by simp[h3]),if_neg (by simp[h4]),if_neg (by simp[h5]),if_neg (by simp[h6])]
def oE(r c:Int)(xs:List Nat)(n:Int):Int:=if Gs r c xs≠0 then Gs r c xs else if r≠c∨r≠n then 3 else 0
theorem tU{r c n:Int}{xs:List Nat}(h:oE r c xs n=0):Gs r c xs=0∧r=n∧c=n:=by
 unfold oE at h
 split at h
 ·rename_i h1;exact absurd h h1
 split at h
 ·cases h
 rename_i h1 h2
 exact⟨Aj h1,by omega,by omega⟩
def ML(h:List Nat)(n:Int)(r:Nat):Int:=if(h.length:Int)≠n then 3 else if h.all DF=false then 4 else if DF r=false then 4 else if Gp .leq r 0=true then 152 else 0
theorem cr{h:List Nat}{n:Int}{r:Nat}(e:ML h n r=0):(h.length:Int)=n∧h.all DF=true∧DF r=true:=by
 unfold ML at e
 split at e
 ·cases e
 split at e
 ·cases e
 split at e
 ·cases e
 rename_i h1 h2 h3
 exact⟨Aj h1,by simpa using h2,by simpa using h3⟩
def VY(f:Nat→Nat)(n k:Nat):List Nat:=(List.range k).map f++List.replicate (n-k) 0
theorem Js{f:Nat→Nat}{n:Nat}:VY f n 0=List.replicate n 0:=by simp[VY]
theorem Mc{f:Nat→Nat}{n k:Nat}(h:k≤n):(VY f n k).length=n:=by simp[VY];omega
theorem Md{f:Nat→Nat}{n k v:Nat}(h:k<n)(hv:v=f k):(VY f n k).set k v=VY f n (k+1):=by
 subst hv
 unfold VY
 rw[List.set_append_right _ _ (by simp),Az,List.length_range,Cb,List.range_succ,C3,Bg]
 congr 1
 obtain⟨m,hm⟩: ∃ m,n-k=m+1:=⟨n-k-1,by omega⟩
 rw[hm,show n-(k+1)=m by omega,C5]
 rfl
theorem Kq{f:Nat→Nat}{n:Nat}:VY f n n=(List.range n).map f:=by simp[VY]
theorem nn(x:Nat):[x].all DF=DF x:=by simp
theorem MI{Γ:D2}{s:I5}{e:Int}{x:KR}(h:(⟨s,e⟩:KR)=x):Sb Γ (EP [DL (XB s),I6 e]) (rF x):=by subst h;exact zL
noncomputable def IH (o:Bool) (n:Int) (x p:List Nat):KR:=if o=true then⟨Ny,5⟩else if KC n p=false then⟨Ny,151⟩else⟨⟨x,n,n,p⟩,0⟩
def zo(n:Int)(f x:List Nat):Nat→Nat:=fun i=>NJ (G6 n f (i:Int)) x
def zp(n:Int)(f x:List Nat):Nat→Bool:=fun i=>Ln (G6 n f (i:Int)) x
def prG(n:Int)(f m q:List Nat):Int→Int→Nat:=fun i j=>TV (NJ (G6 n m i) (G6 n f j)) (mat n q i j)
def zn(n:Int)(f m q:List Nat):Int→Int→Bool:=fun i j=>Ln (G6 n m i) (G6 n f j)|| !DF (prG n f m q i j)
def pdO(n:Int)(f p:List Nat):Bool:=VU n (fun i j=>Ln (G6 n f i) (Gn n n p j)) (n.toNat*n.toNat)
def prF(n:Int)(x p f q:List Nat):Bool:=(vF (zp n f x) n.toNat||pdO n f p)||XP (zn n f (K1 n n f n p) q) n.toNat 0
def prP(n:Int)(p f q:List Nat):List Nat:=Nd n (prG n f (K1 n n f n p) q)
theorem vZ{n:Int}{x p f q:List Nat}(hs:KK n n)(h:prF n x p f q=false):Gs n n (prP n p f q)=0∧Gw n n (prP n p f q)=true:=by
 unfold prF at h
 rw[AQ]at h
 refine Ui hs fun i j h0 h1 h2=>?_
 have:=Tw h.2 h0 h1 h2
 unfold zn at this
 rw[AQ]at this
 simpa using this.2
noncomputable def MH (s:I5) (fr fc:Int) (fa:List Nat) (qr qc:Int) (qa:List Nat):KR:=
 Sq (HK s) (Sq (oE fr fc fa s.x.length) (Sq (oE qr qc qa s.x.length) (Sq (if Gw qr qc qa=true then 0 else 150)
  (IH (prF s.x.length s.x s.a fa qa) s.x.length ((List.range s.x.length).map (zo s.x.length fa s.x)) (prP s.x.length s.a fa qa)))))
noncomputable def Lh (s:I5) (ps:List H9) (t:Int):KR:=
 Sq (HK s) (Sq (IY H7 ps t).e (Sq (if(IY H7 ps t).r=(s.x.length:Int)then 0 else 3) (Sq (IY Ea ps t).e
  (MH s (IY H7 ps t).r (IY H7 ps t).c (IY H7 ps t).a (IY Ea ps t).r (IY Ea ps t).c (IY Ea ps t).a))))
theorem To.resC{X:Cx}{Γ:D2}{ρ:DU}{σ σ':List Res}(k:Nat){r r':Res}(hr:nth σ k=some r)(h: ∀ c ob,FH Γ c→r.H c ob→r'.H c ob)(hσ:EK σ k r'=σ'):To X Γ ρ σ Γ ρ σ':=by
 subst hσ
 intro a c hs
 obtain⟨obs,hown,hres⟩:=hs.own
 refine⟨c,rfl,hs.size,hs.defers,hs.facts,hs.env,obs,hown,fun j q hj=>?_⟩
 rw[G3]at hj
 by_cases hjk:j=k
 ·rw[if_pos hjk]at hj
  subst hjk
  rw[hr]at hj
  cases hj
  exact h _ _ hs.facts (hres j r hr)
 rw[if_neg hjk]at hj
 exact hres j q hj
theorem TK{Γ:D2}{u:Value}{cs cs':List SP}{T:TypeId}(h:TG Γ cs cs'): ∀ c ob,FH Γ c→(Dh u cs T).H c ob→(Dh u cs' T).H c ob:=fun c ob hf ⟨b,cur,h1,h2,h3,h4,h5⟩=>by
 obtain⟨g1,g2⟩:=h.nth
 refine⟨b,cur,h1,h2,h3,by omega,fun i q hq=>?_⟩
 obtain⟨p,hp,hs⟩:=g2 i q hq
 obtain⟨v,hv,k1,k2⟩:=h5 i p hp
 exact⟨v,hv,k1,hs v c hf k2⟩
def Ry(f:Nat→Nat)(k:Nat):List Nat:=(List.range k).map f
theorem Rz{f:Nat→Nat}{k:Nat}:Ry f (k+1)=Ry f k++ [f k]:=by
 unfold Ry
 rw[List.range_succ,C3]
 rfl
theorem GH(f:Nat→Nat)(k:Nat):(Ry f k).length=k:=by simp[Ry]
noncomputable def KD (s:I5) (h:List Nat) (r:Nat):Int:=if HK s≠0 then HK s else ML h s.x.length r
theorem Zc{s:I5}{h:List Nat}{r:Nat}(e:KD s h r=0):HK s=0∧ML h s.x.length r=0:=by
 unfold KD at e
 split at e
 ·rename_i h1;exact absurd e h1
 rename_i h1;exact⟨Aj h1,e⟩
def yk(n:Int)(a h:List Nat):Nat→Nat:=fun i=>NJ (G6 n a (i:Int)) h
def vf(n:Int)(a h:List Nat):Nat→Bool:=fun i=>Ln (G6 n a (i:Int)) h
def Nv(n:Int)(a h:List Nat):List Nat:=Ry (yk n a h) n.toNat
def VX(x h:List Nat):Nat:=NJ h x
def Gg(n:Int)(a h:List Nat)(r:Nat):Nat:=TV (NJ h (Nv n a h)) r
def VW(n:Int)(x a h:List Nat)(r:Nat):Bool:=((vF (vf n a h) n.toNat||Ln h x)||Ln h (Nv n a h))|| !DF (Gg n a h r)
def oB(o:Bool)(v:Nat):Int:=if o=true then 5 else if Gp .gtr v 0=true then 0 else 153
def upC(o:Bool)(x:List Nat)(n:Int)(a h:List Nat)(r f:Nat)(v:List Nat)(k:SP)(w:Nat):List SP:=[CW (.bool o),Dp x,I6 n,I6 n,Dp a,Dp h,Dm r,Dm f,Dp v,k,Dm w]
def oC(k h:List Nat):Int→Int→Nat:=fun i j=>MA (if i=j then oK else 0) (Ft (k.getD i.toNat 0) (h.getD j.toNat 0))
def Ue(k h:List Nat):Int→Int→Bool:=fun i j=> !DF (Ft (k.getD i.toNat 0) (h.getD j.toNat 0))|| !DF (oC k h i j)
def YL(n:Int)(k h:List Nat):List Nat:=GM n n (oC k h)
def yw(n:Int)(a k h:List Nat):List Nat:=K1 n n (YL n k h) n a
def joG(n:Int)(a k h:List Nat)(r:Nat):Int→Int→Nat:=fun i j=>TV (NJ (G6 n (yw n a k h) i) (G6 n (YL n k h) j)) (Ft (Ft (k.getD i.toNat 0) r) (k.getD j.toNat 0))
def yy(n:Int)(a k h:List Nat)(r:Nat):Int→Int→Bool:=fun i j=>((Ln (G6 n (yw n a k h) i) (G6 n (YL n k h) j)|| !DF (Ft (k.getD i.toNat 0) r))|| !DF (Ft (Ft (k.getD i.toNat 0) r) (k.getD j.toNat 0)))|| !DF (joG n a k h r i j)
def wZ(n:Int)(a k h:List Nat)(r:Nat):Bool:=(VU n (Ue k h) (n.toNat*n.toNat)||pdO n (YL n k h) a)||XP (yy n a k h r) n.toNat 0
def yz(n:Int)(a k h:List Nat)(r:Nat):List Nat:=Nd n (joG n a k h r)
theorem W7{n:Int}{k h:List Nat}(hs:KK n n):Fc n n (YL n k h):=Me hs
theorem vw{n:Int}{a k h:List Nat}{r:Nat}(hs:KK n n)(e:wZ n a k h r=false):Gs n n (yz n a k h r)=0∧Gw n n (yz n a k h r)=true:=by
 unfold wZ at e
 rw[AQ]at e
 refine Ui hs fun i j h0 h1 h2=>?_
 have:=Tw e.2 h0 h1 h2
 unfold yy at this
 rw[AQ]at this
 simpa using this.2
def tZ(n:Int)(v:List Nat)(w:Nat):List Nat:=Ry (fun i=>fdiv (v.getD i 0) w) n.toNat
def wN(x v:List Nat)(w y:Nat):Nat→Nat:=fun i=>TV (x.getD i 0) (Ft (fdiv (v.getD i 0) w) y)
def upO(x v:List Nat)(w y:Nat):Nat→Bool:=fun i=>(!DF (fdiv (v.getD i 0) w)|| !DF (Ft (fdiv (v.getD i 0) w) y))|| !DF (wN x v w y i)
def Tx(x h:List Nat)(z:Nat):Nat:=MA z (VX x h)
def upV(n:Int)(x a h:List Nat)(r z:Nat):List Nat:=Ry (wN x (Nv n a h) (Gg n a h r) (Tx x h z)) n.toNat
def u4(n:Int)(a h:List Nat)(r:Nat):List Nat:=yz n a (tZ n (Nv n a h) (Gg n a h r)) h r
def xH(n:Int)(x a h:List Nat)(r z:Nat):Bool:=
 ((((VW n x a h r|| !DF (Tx x h z))||vF (upO x (Nv n a h) (Gg n a h r) (Tx x h z)) n.toNat)|| !DF (Ft (Tx x h z) (Tx x h z)))|| !DF (fdiv (Ft (Tx x h z) (Tx x h z)) (Gg n a h r)))||wZ n a (tZ n (Nv n a h) (Gg n a h r)) h r
theorem wM{n:Int}{x a h:List Nat}{r z:Nat}(hs:KK n n)(e:xH n x a h r z=false):Gs n n (u4 n a h r)=0∧Gw n n (u4 n a h r)=true:=by
 unfold xH at e
 rw[AQ]at e
 exact vw hs e.2
noncomputable def IT (s:I5) (h:List Nat) (r z:Nat):KR:=
 Sq (KD s h r) (Sq (if DF z=true then 0 else 4) (Sq (oB (VW s.x.length s.x s.a h r) (Gg s.x.length s.a h r)) (IH (xH s.x.length s.x s.a h r z) s.x.length (upV s.x.length s.x s.a h r z) (u4 s.x.length s.a h r))))
section ops
variable {P:Program} {n:Nat} {ops:Array Oper} {Γ:D2} {ρ:DU} {δ:DK} {τ:List VR}
variable {d:Nat} {ty:TypeId} {pos:String} {af:Array Edge}
theorem ra{x:Operand}{T:TypeId}{t':TypeId}{u:Value}(hT:P.underlying T=some (.pointer (P.pointee T)))(hx:Lk Γ δ ρ x (DW u 0)):
  OpOK P n ops Γ ρ δ τ ⟨some d,.binOp .neq T x (.const (.pointer none)) t',ty,pos,af,none⟩ .no (.c (CW (.bool true))) ET:=
 DE fun A c _ hr=>by
  obtain⟨b,_,h1⟩:=hr x _ (by simp[Op.operands]) hx
  have h2:A.eval (.const (.pointer none))= .pointer none:=rfl
  have hrun:=run_neq_pointer_nil (w:=c.w) T (some ⟨b,0,none⟩) hT
  exact⟨.bool true,by simp[execOp,eqGuard,h1,h2,hrun],rfl,rfl⟩
theorem lA{x:Operand}{T:TypeId}{t':TypeId}(hT:P.underlying T=some (.pointer (P.pointee T)))(hx:Lk Γ δ ρ x (CW (.pointer none))):
  OpOK P n ops Γ ρ δ τ ⟨some d,.binOp .neq T x (.const (.pointer none)) t',ty,pos,af,none⟩ .no (.c (CW (.bool false))) ET:=
 DE fun A c _ hr=>by
  have h1:=(hr x _ (by simp[Op.operands]) hx).1
  have h2:A.eval (.const (.pointer none))= .pointer none:=rfl
  have hrun:=run_neq_pointer_nil (w:=c.w) T none hT
  exact⟨.bool false,by simp[execOp,eqGuard,h1,h2,hrun],rfl,rfl⟩
end ops
structure um where
 y:Nat
 v:Nat
 s:Nat
 g:List Nat
def tT(p:um):List SP:=[Dm p.y,Dm p.v,Dm p.s,Dp p.g]
def x8:um:=⟨0,0,0,[]⟩
noncomputable def XS (s:I5) (h:List Nat) (r z:Nat):um:=if(IT s h r z).e=0 then⟨Tx s.x h z,Gg s.x.length s.a h r,fdiv (Ft (Tx s.x h z) (Tx s.x h z)) (Gg s.x.length s.a h r),tZ s.x.length (Nv s.x.length s.a h) (Gg s.x.length s.a h r)⟩else x8
def fI(x:KR)(p:um):SP:=EP [DL (XB x.s),DL (tT p),I6 x.e]
theorem T8{o:Bool}{n:Int}{x p:List Nat}(h:(IH o n x p).e≠0):IH o n x p=⟨Ny,(IH o n x p).e⟩:=by
 unfold IH at h⊢
 split
 ·rfl
 rename_i h1
 rw[if_neg h1]at h
 split
 ·rfl
 rename_i h2
 rw[if_neg h2]at h
 exact absurd rfl h
theorem kr{o:Bool}{n:Int}{x p:List Nat}(h:(IH o n x p).e=0):IH o n x p=⟨⟨x,n,n,p⟩,0⟩∧o=false∧KC n p=true:=by
 unfold IH at h⊢
 split
 ·rename_i h1;rw[if_pos h1]at h;cases h
 rename_i h1
 rw[if_neg h1]at h
 split
 ·rename_i h2;rw[if_pos h2]at h;cases h
 rename_i h2
 exact⟨rfl,by simpa using h1,by simpa using h2⟩
theorem bX{Γ:D2}{s:I5}{q:um}{e:Int}{x:KR}{p:um}(h:x=⟨s,e⟩)(hp:p=q):Sb Γ (EP [DL (XB s),DL (tT q),I6 e]) (fI x p):=by subst h;subst hp;exact zL
theorem V3{s:I5}{h:List Nat}{r z:Nat}(e:KD s h r≠0):IT s h r z=⟨Ny,KD s h r⟩:=Jw e
theorem o9{s:I5}{h:List Nat}{r z:Nat}(e:KD s h r=0)(hz:DF z=false):IT s h r z=⟨Ny,4⟩:=by unfold IT;rw[ED e,if_neg (by rw[hz];decide),Jw (by decide)]
theorem o7{s:I5}{h:List Nat}{r z:Nat}(e:KD s h r=0)(hz:DF z=true)(hf:oB (VW s.x.length s.x s.a h r) (Gg s.x.length s.a h r)≠0):IT s h r z=⟨Ny,oB (VW s.x.length s.x s.a h r) (Gg s.x.length s.a h r)⟩:=by unfold IT;rw[ED e,if_pos hz,ED rfl,Jw hf]
theorem o8{s:I5}{h:List Nat}{r z:Nat}(e:KD s h r=0)(hz:DF z=true)(hf:oB (VW s.x.length s.x s.a h r) (Gg s.x.length s.a h r)=0):IT s h r z=IH (xH s.x.length s.x s.a h r z) s.x.length (upV s.x.length s.x s.a h r z) (u4 s.x.length s.a h r):=by unfold IT;rw[ED e,if_pos hz,ED rfl,ED hf]
theorem Qq{s:I5}{h:List Nat}{r z:Nat}(e:(IT s h r z).e≠0):XS s h r z=x8:=if_neg e
theorem sR{s:I5}{h:List Nat}{r z:Nat}(e:(IT s h r z).e=0):XS s h r z=⟨Tx s.x h z,Gg s.x.length s.a h r,fdiv (Ft (Tx s.x h z) (Tx s.x h z)) (Gg s.x.length s.a h r),tZ s.x.length (Nv s.x.length s.a h) (Gg s.x.length s.a h r)⟩:=if_pos e
theorem WB{f:Nat→Nat}{k v:Nat}:(Ry f k++ [v]).getD ((k:Nat):Int).toNat 0=v:=by
 have:=GH f k
 simp[List.getD,Bp,this]
theorem wP{p z:Bool}(h:((p||true)&& !z)=true):z=false:=by cases p<;>cases z<;>simp_all
theorem wO{p z:Bool}(h:((p||true)&& !z)=false):z=true:=by cases p<;>cases z<;>simp_all
theorem o6{s:I5}{h:List Nat}{r z:Nat}(e:(IT s h r z).e≠0):IT s h r z=⟨Ny,(IT s h r z).e⟩:=by
 by_cases h1:KD s h r=0
 ·cases hz:DF z
  ·rw[o9 h1 hz]
  by_cases hf:oB (VW s.x.length s.x s.a h r) (Gg s.x.length s.a h r)=0
  ·have hl:=o8 h1 hz hf
   rw[hl]at e⊢
   exact T8 e
  rw[o7 h1 hz hf]
 rw[V3 h1]
noncomputable def Gm (s:I5) (hc:Int) (ha rs zs:List Nat):Nat→KR
 |0=>⟨s,0⟩
 |k+1=>if(Gm s hc ha rs zs k).e=0 then IT (Gm s hc ha rs zs k).s (G6 hc ha (k:Int)) (rs.getD k 0) (zs.getD k 0)else Gm s hc ha rs zs k
theorem Ir{s:I5}{hc:Int}{ha rs zs:List Nat}{k:Nat}(h:(Gm s hc ha rs zs k).e=0):Gm s hc ha rs zs (k+1)=IT (Gm s hc ha rs zs k).s (G6 hc ha (k:Int)) (rs.getD k 0) (zs.getD k 0):=if_pos h
theorem Nr{s:I5}{hc:Int}{ha rs zs:List Nat}{k:Nat}(h:(Gm s hc ha rs zs k).e≠0): ∀ m,k≤m→Gm s hc ha rs zs m=Gm s hc ha rs zs k
 |0,hm=>by rw[show k=0 by omega]
 |m+1,hm=>by
  by_cases e:k=m+1
  ·rw[e]
  have ih:=Nr h m (by omega)
  show(if(Gm s hc ha rs zs m).e=0 then _ else _)=_
  rw[ih,if_neg h]
noncomputable def Ii (s:I5) (hr hc:Int) (ha rs zs:List Nat):KR:=
 Sq (HK s) (Sq (Gs hr hc ha) (Sq (if hc=(s.x.length:Int)∧(rs.length:Int)=hr∧(zs.length:Int)=hr then 0 else 3) (Gm s hc ha rs zs hr.toNat)))
def zU(x:KR):SP:=EP [DL (XB x.s),Ge,Ge,I6 x.e]
theorem Xe{Γ:D2}{s:I5}{e:Int}{x:KR}{p q:SP}(h:x=⟨s,e⟩):Sb Γ (EP [DL (XB s),p,q,I6 e]) (zU x):=by
 subst h
 rintro v c hf ⟨vs,h1,h2⟩
 match vs,h2 with
 |[a,b,d,f],⟨g1,g2,g3,g4,g5⟩=>exact⟨[a,b,d,f],h1,g1,trivial,trivial,g4,g5⟩
theorem Gx{α:Type}{es:Nat}{mk:α→List SP}(hl: ∀ a,(mk a).length=es)(xs:List α):(xs.flatMap mk).length=xs.length*es:=by
 induction xs with
 |nil=>rw[List.flatMap_nil,List.length_nil,List.length_nil,BR]
 |cons a l ih=>rw[B8,As,hl,ih,AG,B6,Nat.add_comm]
theorem fF{α:Type}{es:Nat}{mk:α→List SP}(hl: ∀ a,(mk a).length=es){xs:List α}{k:Nat}{v:α}(h:k<xs.length):Yi (k*es) (mk v) (xs.flatMap mk) ((xs.set k v).flatMap mk):=by
 have hk:k*es+es≤xs.length*es:=by
  have:=Au es (show k+1≤xs.length from h)
  rw[B6]at this
  exact this
 refine⟨by rw[Gx hl,Gx hl,Aa],by rw[hl,Gx hl];exact hk,fun i=>?_⟩
 rw[hl]
 by_cases hi:i<xs.length*es
 ·have he:0<es:=by
   rcases BN es with h0|h0
   ·rw[h0,Nat.mul_zero]at hi;exact absurd hi (Bl i)
   exact h0
  have hm:i % es<es:=Ap _ he
  have hie:i=i/es*es+i % es:=by rw[AP];exact(Cm i es).symm
  have hq:i/es<xs.length:=(CC he).2 hi
  generalize i/es=q at*
  generalize i % es=m at*
  subst hie
  rw[Jl hl v (by rw[Aa];exact hq) hm,Jl hl v hq hm]
  by_cases hqk:q=k
  ·subst hqk
   rw[if_pos ⟨Nat.le_add_right _ _,by omega⟩,Nat.add_sub_cancel_left]
   rw[List.getD,BL hq];rfl
  have: ¬(k*es≤q*es+m∧q*es+m<k*es+es):=by
   rcases Nat.lt_or_gt_of_ne hqk with h1|h1
   ·have:=Au es (show q+1≤k from h1)
    rw[B6]at this;omega
   have:=Au es (show k+1≤q from h1)
   rw[B6]at this;omega
  rw[if_neg this,List.getD,List.getD,Bq (Ne.symm hqk)]
 rw[Dq,AT (by rw[Gx hl,Aa];omega),if_neg (by omega),Dq,AT (by rw[Gx hl];omega)]
section ops
variable {P:Program} {n:Nat} {ops:Array Oper} {Γ:D2} {ρ:DU} {δ:DK} {τ:List VR}
variable {d:Nat} {ty:TypeId} {pos:String} {af:Array Edge}
theorem vO(s t d:Nat){o:Oper}{e1 e2 e':VE}{acc:Jg}{q:Vl→SP}{vr:VR}(hd:o.dst=some d)(hy:DA δ ρ s=some e1)(hz:DA δ ρ t=some e2)(hn:((e1.D++e2.D).all fun t=> !Nat.beq d t)=true)
  (h: ∀ f:Vl,OpOK P n ops Γ ρ ((s,.c (e1.at f))::(t,.c (e2.at f))::δ) τ o acc (.c (q f)) vr) (hc: ∀ f g:Vl,(∀ t,t∈e1.D++e2.D→f t=g t)→q f=q g) (he:e'= .d (e1.D++e2.D) q hc):OpOK P n ops Γ ρ δ τ o acc e' vr:=by
 subst he
 intro a c ob hs hwf hf hr hres hno hown
 have h1:=h (vl a) a c ob hs hwf hf (fun u hu p hp=>by
  by_cases hus:s=u
  ·subst hus
   simp only[DA,Nat.beq_refl,cond_true,Ah]at hp
   subst hp
   exact hr s hu e1 hy
  simp only[DA,FO hus,cond_false]at hp
  by_cases hut:t=u
  ·subst hut
   simp only[Nat.beq_refl,cond_true,Ah]at hp
   subst hp
   exact hr t hu e2 hz
  simp only[FO hut,cond_false]at hp
  exact hr u hu p hp) hres hno hown
 have hq: ∀ v,q (Sx (vl a) o.dst v)=q (vl a):=fun v=>hc _ _ fun t ht=>by
  have:=B1.1 hn t ht
  rw[hd]
  show cond (Nat.beq d t) v (vl a t)=vl a t
  cases hb:Nat.beq d t
  ·rfl
  rw[hb]at this;cases this
 simp only[VE.at,hq]at h1⊢
 exact h1
theorem MG{α:Type}{es:Nat}{mk:α→List SP}{xs:List α}{v:α}{x y:Operand}{T U:TypeId}{base:Value}{off j:Nat}(k:Nat)(hl: ∀ a,(mk a).length=es)(hx:Lk Γ δ ρ x (DW base off))(ho:off=j*es)(hy:Lk Γ δ ρ y (DL (mk v)))(hT:J5 P T=some es)(hk:nth τ k=some (.c (Gd base es mk xs U)))(h1:j<xs.length):
  OpOK P n ops Γ ρ δ τ ⟨none,.store T x y,ty,pos,af,none⟩ (.wr k) (.c Ge) (.c (Gd base es mk (xs.set j v) U)):=by
 subst ho
 refine Kz (cells:=xs.flatMap mk) (cells':=(xs.set j v).flatMap mk) k hx hy yL (by rw[hl];exact hT) hk (fF hl h1) ?_
 have:=Rv (sv:=base) (n:=xs.length) (k:=es) (cells:=xs.flatMap mk) (cells':=(xs.set j v).flatMap mk) (T:=U) (by omega) (by rw[Gx hl,Gx hl,Aa])
 simpa[Gd]using this
theorem LP{α:Type}{mk:α→List SP}{xs:List α}{x y:Operand}{T:TypeId}{E es eb:Nat}{ki:IntKind}{z:Int}{sv:Value}{T':Nat}(k:Nat)(ht:Iu P T=some (E,es,eb))(hx:Lk Γ δ ρ x (CW sv))(hy:Lk Γ δ ρ y (CW (.int ki z)))(hk:nth τ k=some (.c (Gd sv es mk xs T')))(h0:0≤z)(h1:z<xs.length):
  OpOK P n ops Γ ρ δ τ ⟨some d,.indexAddr T x y,ty,pos,af,none⟩ (.rd k) (.c (DW sv (z.toNat*es))) ET:=O6 k ht hx hy hk h0 h1
end ops
end Go.Bn
