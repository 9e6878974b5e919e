/- For every input the law TopSmooths returns true, and each argument reads afterwards as it read before; the listed variables read as the text lays them: the card ties them. (Printed by a program of ours, rowdoor.py.) -/
import Derived.Test.YtgfanjebfjeneaaGreatDoorRows
import Derived.Test.YtgfanjebfjeneaaGreatDoorCards
import Derived.Test.YtgfanjebfjeneaaGreatDoorTie
import Derived.Test.YtgfanjebfjeneaaGreatDoorZqM11
import Derived.Test.YtgfanjebfjeneaaGreatDoorZqM25
import Derived.MakeChecks
import Derived.ProofKit
import Derived.LaidMore
import Derived.OpenShut
import Derived.Stop.Joined
import Derived.SevenTiedAt
import Derived.Deep.DeepHandedRow
import Derived.Lib.LaidTab
set_option linter.unusedVariables false
set_option linter.unusedSimpArgs false
namespace Go.Proofs.YtgfanjebfjeneaaGreatDoor.topSmoothsDone
open Go.ChangeShapes Go.WideShapes Go.ChangeAt Go.RowKit Go Go.Bn
theorem own:ownKnob Tryz.prog.godebug=none:=by kernel_rfl
theorem laidOut:laidOutB Tryz.prog=true:=by kernel_rfl
theorem doorMet(os:Os)(args:Array Value):laidMetH Tryz.prog Rows.topSmoothsUptoRow.laid ((World.doorLaid Tryz.prog 24 os).forCall (fun _ _=>0) ⟨#[],args,[]⟩).memory:=
 laidMetH_of_parts3 (fuel:=8) (laidMet_of_run' 8 (by kernel_rfl) (by kernel_rfl)) (by kernel_rfl) (by kernel_rfl)
theorem laid_tab{W:World}{nm:String}{gi ty fuel:Nat}{l:List Int}{g:Nat}{t:TypeId}{cs:Array Value}{p:List MemPlace}(hn:Tryz.prog.globalNamed nm=some gi)(ht0:(Tryz.prog.globals[gi]?).map (·.type)=some ty)(hu:Tryz.prog.underlying ty=some (.array l.length 5))
  (hg:Tryz.prog.globalNamed nm=some g) (ht:(Tryz.prog.globals[g]?).map (·.type)=some t) (hv:W.var? Tryz.prog nm=some cs) (hd:DataW.trod (fun _=>()) Tryz.prog W 0 (fun _=>true) false fuel t cs.toList=some (.agg (l.map fun n=>(DataW.lit (.int .u8 n):DataW Unit)),p)):(XI gi l).H (.pointer (some ⟨gi,0,none⟩)) ⟨W,fun _=>False⟩:=by
 obtain rfl:=Option.some.inj (hn.symm.trans hg)
 obtain rfl:=Option.some.inj (ht0.symm.trans ht)
 obtain⟨xs,m,_,ex,_,hl,hel⟩:=DataW.trod_array hu hd
 have c5:Tryz.prog.cellsOf 5=1:=by kernel_rfl
 have e3:(xs.map (·.1))=l.map fun n=>(DataW.lit (.int .u8 n):DataW Unit):=(DataW.agg.inj (Prod.mk.inj ex).1).symm
 have key: ∀ (r:Nat) (z:Int),l[r]? =some z→cs[r]? =some (.int .u8 z):=fun r z hz=>by
  have hr:r<l.length:=(List.getElem?_eq_some_iff.1 hz).1
  have hE:=hel r (by omega)
  rw[c5,Nat.mul_one,List.getElem?_eq_getElem (by omega)]at hE
  obtain⟨y,e1,e2,_⟩:=DataW.trod_int Tryz.underlying5 hE
  have e4:(xs.map (·.1))[r]? =(l.map fun n=>(DataW.lit (.int .u8 n):DataW Unit))[r]? :=by rw[e3]
  rw[List.getElem?_map,List.getElem?_map,List.getElem?_eq_getElem (by omega:r<xs.length),hz,e2]at e4
  have hy:y=z:=by
   simp only[Option.map_some,Option.some.injEq,DataW.lit.injEq,Lit.int.injEq,true_and]at e4
   exact e4
  have h0:((cs.toList.drop r).take 1)[0]? =some (.int .u8 y):=by rw[e1];rfl
  rw[←hy]
  simpa using h0
 simp only[World.var?,hg,Option.bind_some]at hv
 split at hv
 ·rename_i cs' T fz hh
  simp only[Option.some.injEq]at hv
  subst hv
  exact⟨id,cs',T,fz,hh,key⟩
 cases hv
theorem of_laid{W:World}(h:laidMetH Tryz.prog Rows.topSmoothsUptoRow.laid W):FG ⟨W,fun _=>False⟩:=by
 rw[MakeChecks.laidMetH_plain _ _ _ (by kernel_rfl)]at h
 obtain⟨ps,⟨g,t,cs,fuel,p,q,hg,ht,hv,hd,⟨g',t',cs',fuel',p',q',hg',ht',hv',hd',_,_⟩,_⟩,_,_⟩:=h
 have a:(XI 2 uT).H ZD ⟨W,fun _=>False⟩:=laid_tab (ty:=306) (by kernel_rfl) (by kernel_rfl) Tryz.underlying306 hg ht hv hd
 have b:(XI 1 Yx).H S8 ⟨W,fun _=>False⟩:=laid_tab (ty:=267) (by kernel_rfl) (by kernel_rfl) Tryz.underlying267 hg' ht' hv' hd'
 intro v p hm
 unfold Gl at hm
 simp only[List.mem_cons,List.not_mem_nil,or_false,Prod.mk.injEq]at hm
 rcases hm with ⟨rfl,rfl⟩|⟨rfl,rfl⟩
 ·exact b
 exact a
theorem reads(os:Os){H:Type}(enc:TypeId×Value→H): ∃ x,DataW.whole enc Tryz.prog ((World.doorLaid Tryz.prog 24 os).forCall (fun _ _=>0) ⟨#[],#[.slice none 0 0,.int .i64 0,.slice none 0 0,.agg #[.slice none 0 0],.slice none 0 0,.int .i64 0],[]⟩).memory Tryz.f3.params.toList Rows.topSmoothsSpec.vars false #[.slice none 0 0,.int .i64 0,.slice none 0 0,.agg #[.slice none 0 0],.slice none 0 0,.int .i64 0].toList 8=some ([.nil,.lit (.int .i64 0),.nil,.agg [.nil],.nil,.lit (.int .i64 0)],[],x):=
 ⟨[],by kernel_rfl⟩
theorem bound{H:Type}{l:List (DataW H)}(hk:Rows.uptoSmall H l=true):Rows.uptoBulkAll l≤1048576:=of_decide_eq_true hk
set_option maxRecDepth 100000 in
theorem lifted(os:Os)(started:os.Started)(H:Type)(enc:TypeId×Value→H)(F:Stop.Interp):
  ReturnsInHanded {} Tryz.checked os 3 .any ((Rows.OpenSpec.upto Rows.topSmoothsSpec).preRow enc Tryz.prog Tryz.f3 Rows.topSmoothsUptoRow.domain false Rows.topSmoothsUptoRow.laid) (((Rows.OpenSpec.upto Rows.topSmoothsSpec).at F).post enc Tryz.prog Tryz.f3 false true false false):=by
 obtain⟨places,hx⟩:=reads os enc
 refine returnsInHanded_of_row (C:=Tryz.checked) (s:=Rows.OpenSpec.upto Rows.topSmoothsSpec) own started (by kernel_rfl) Tryz.func3
  (witness_row_at (enc:=enc) (C:=Tryz.checked) false (World.doorLaid Tryz.prog 24 os) #[.slice none 0 0,.int .i64 0,.slice none 0 0,.agg #[.slice none 0 0],.slice none 0 0,.int .i64 0] rfl (by kernel_rfl) (by kernel_rfl) (by kernel_rfl)
   (OpenSpec.preRow_of_cond 8 hx (by kernel_rfl) (fun k hk=>by cases hk;kernel_rfl) (by kernel_rfl) (doorMet os _))) ?_
 intro W base args ds gs before hval0 hW hcnds hcond hsz0 hX _ _
 have hval: ∀ (j:Nat) t v,Tryz.f3.params[j]? =some t→args[j]? =some v→Value.okWide Tryz.prog W .any base t v:=hval0
 have hW':=hW
 obtain⟨p,q,hA0,hV,rfl,hfz,hnd⟩:=hW
 have hA:DataW.TrodAll enc Tryz.prog W 0 (fun _=>true) true Tryz.f3.params.toList args.toList ds p:=hA0
 obtain⟨rfl,rfl⟩:=trodVars_none hV
 have hbk:=bound (hcond _ rfl)
 have hsz:(DataW.weightsEach Tryz.prog (Tryz.f3.params.toList++ []) (ds++ [])).all (· ≤reachBytes)=true:=hsz0
 rw[List.append_nil,List.append_nil]at hsz
 rw[List.append_nil]at hbk
 rw[Tryz.params3]at hA hval hsz
 obtain⟨v0,vs0,d0,ds0,p0,q0,hargs,rfl,rfl,h0,r0⟩:=trodAll_cons hA
 obtain⟨v1,vs1,d1,ds1,p1,q1,rfl,rfl,rfl,h1,r1⟩:=trodAll_cons r0
 obtain⟨v2,vs2,d2,ds2,p2,q2,rfl,rfl,rfl,h2,r2⟩:=trodAll_cons r1
 obtain⟨v3,vs3,d3,ds3,p3,q3,rfl,rfl,rfl,h3,r3⟩:=trodAll_cons r2
 obtain⟨v4,vs4,d4,ds4,p4,q4,rfl,rfl,rfl,h4,r4⟩:=trodAll_cons r3
 obtain⟨v5,vs5,d5,ds5,p5,q5,rfl,rfl,rfl,h5,r5⟩:=trodAll_cons r4
 obtain⟨rfl,rfl,rfl⟩:=trodAll_nil r5
 obtain rfl:args= #[v0,v1,v2,v3,v4,v5]:=by cases args;simp_all
 have hsz1: ∀ x,x∈DataW.weightsEach Tryz.prog [22,3,22,25,26,3] [d0,d1,d2,d3,d4,d5]→x≤reachBytes:=fun x hx=>of_decide_eq_true (List.all_eq_true.1 hsz x hx)
 have k0:=h0
 have lt0: ∀ x∈p0,x.block<W.heap.size:=by obtain⟨m,hm⟩:=k0;exact DataW.trod_lt m _ _ _ hm
 have bk0:Rows.uptoBulk d0≤1048576:=Nat.le_trans (Jn (by simp)) hbk
 obtain⟨xs,g0,m0,w0⟩:=zb H enc W base v0 d0 p0 (hval 0 22 v0 rfl rfl) h0 fun x hx=>hsz1 x (DataW.weights_mem_each (j:=0) (t:=22) (d:=d0) rfl rfl x hx)
 have hb0:=Nat.le_trans m0 bk0
 have k1:=h1
 have lt1: ∀ x∈p1,x.block<W.heap.size:=by obtain⟨m,hm⟩:=k1;exact DataW.trod_lt m _ _ _ hm
 have bk1:Rows.uptoBulk d1≤1048576:=Nat.le_trans (Jn (by simp)) hbk
 obtain⟨n,g1,m1,w1⟩:=ob3 H enc W base v1 d1 p1 (hval 1 3 v1 rfl rfl) h1 fun x hx=>hsz1 x (DataW.weights_mem_each (j:=1) (t:=3) (d:=d1) rfl rfl x hx)
 have hb1:=Nat.le_trans m1 bk1
 have k2:=h2
 have lt2: ∀ x∈p2,x.block<W.heap.size:=by obtain⟨m,hm⟩:=k2;exact DataW.trod_lt m _ _ _ hm
 have bk2:Rows.uptoBulk d2≤1048576:=Nat.le_trans (Jn (by simp)) hbk
 obtain⟨ps,g2,m2,w2⟩:=zb H enc W base v2 d2 p2 (hval 2 22 v2 rfl rfl) h2 fun x hx=>hsz1 x (DataW.weights_mem_each (j:=2) (t:=22) (d:=d2) rfl rfl x hx)
 have hb2:=Nat.le_trans m2 bk2
 have k3:=h3
 have lt3: ∀ x∈p3,x.block<W.heap.size:=by obtain⟨m,hm⟩:=k3;exact DataW.trod_lt m _ _ _ hm
 have bk3:Rows.uptoBulk d3≤1048576:=Nat.le_trans (Jn (by simp)) hbk
 obtain⟨ms,g3,m3,w3⟩:=a1i H enc W base v3 d3 p3 (hval 3 25 v3 rfl rfl) h3 fun x hx=>hsz1 x (DataW.weights_mem_each (j:=3) (t:=25) (d:=d3) rfl rfl x hx)
 have hb3:=Nat.le_trans m3 bk3
 have k4:=h4
 have lt4: ∀ x∈p4,x.block<W.heap.size:=by obtain⟨m,hm⟩:=k4;exact DataW.trod_lt m _ _ _ hm
 have bk4:Rows.uptoBulk d4≤1048576:=Nat.le_trans (Jn (by simp)) hbk
 obtain⟨gs,g4,m4,w4⟩:=a1j H enc W base v4 d4 p4 (hval 4 26 v4 rfl rfl) h4 fun x hx=>hsz1 x (DataW.weights_mem_each (j:=4) (t:=26) (d:=d4) rfl rfl x hx)
 have hb4:=Nat.le_trans m4 bk4
 have k5:=h5
 have lt5: ∀ x∈p5,x.block<W.heap.size:=by obtain⟨m,hm⟩:=k5;exact DataW.trod_lt m _ _ _ hm
 have bk5:Rows.uptoBulk d5≤1048576:=Nat.le_trans (Jn (by simp)) hbk
 obtain⟨lg,g5,m5,w5⟩:=ob3 H enc W base v5 d5 p5 (hval 5 3 v5 rfl rfl) h5 fun x hx=>hsz1 x (DataW.weights_mem_each (j:=5) (t:=3) (d:=d5) rfl rfl x hx)
 have hb5:=Nat.le_trans m5 bk5
 clear hA0 hval0
 refine(Ct.at (Zw g0 (Nat.le_trans hb0 (by decide)) g2 (Nat.le_trans hb2 (by decide)) (dS g4 hb4) (qb g5)) (vs:=[v0,v1,v2,v3,v4,v5]) (⟨w0,⟨w1,⟨w2,⟨w3,⟨w4,⟨w5,trivial⟩⟩⟩⟩⟩⟩) (of_laid hX)).mono fun e W' ⟨he,bel⟩=>?_
 subst he
 exact⟨_,rfl,_,_,_,[],_,[],hW',trodAll_mk1 (shut_bool Tryz.underlying4 _),(trodAll_cons_mk (Below.trod laidOut (by kernel_rfl) (of_decide_eq_true (by kernel_rfl)) k0 bel lt0) (trodAll_cons_mk (Below.trod laidOut (by kernel_rfl) (of_decide_eq_true (by kernel_rfl)) k1 bel lt1) (trodAll_cons_mk (Below.trod laidOut (by kernel_rfl) (of_decide_eq_true (by kernel_rfl)) k2 bel lt2) (trodAll_cons_mk (Below.trod laidOut (by kernel_rfl) (of_decide_eq_true (by kernel_rfl)) k3 bel lt3) (trodAll_cons_mk (Below.trod laidOut (by kernel_rfl) (of_decide_eq_true (by kernel_rfl)) k4 bel lt4) (trodAll_cons_mk (Below.trod laidOut (by kernel_rfl) (of_decide_eq_true (by kernel_rfl)) k5 bel lt5) trodAll_mk0)))))),rfl,bel.frame _,fun h=>by cases h⟩
theorem over:Rows.TopSmoothsUptoSaid:=
 OpenClaim.holds_of_cond 3 Tryz.f3 rfl rfl rfl rfl rfl rfl rfl ⟨rfl,rfl,rfl,rfl,rfl⟩ rfl rfl rfl rfl rfl (by kernel_rfl) Tryz.func3 (by kernel_rfl)
  (of_decide_eq_true (by kernel_rfl)) (by unfold Func.isWrapper;first|(rw[if_pos (by decide+kernel)];kernel_rfl)|(rw[if_neg (by decide+kernel)];exact⟨rfl,rfl⟩))
  (fun os started H enc _ F=>by rw[OpenClaim.pre_eq_preRow];exact lifted os started H enc F)
theorem proved:Rows.TopSmoothsUptoCardSaid:=
 Claim7.holds_tied_plain_at .later [] [.data,.data] true (true, "84a1f24026dc5f307f074613fe0a2546b3ffbd61717fb7e7c43b86032906dc59") true
  over (fun _ h=>by cases h) (by kernel_rfl) (fun _ h=>by cases h) topSmoothsUpto_row_tie rfl ⟨rfl,rfl⟩ (by kernel_rfl) rfl
  (fun f fn hf hfn=>by
   obtain rfl:f=3:=Option.some.inj ((show Tryz.prog.funcNamed "binnacle/binnacletop.TopSmooths" =some 3 by kernel_rfl).symm.trans hf)|>.symm
   obtain rfl:fn=Tryz.f3:=(Option.some.inj (Tryz.func3.symm.trans hfn)).symm
   exact⟨by kernel_rfl,fun j t ht=>by
    rw[Tryz.params3]at ht
    have hm:t∈ [22,3,22,25,26,3]:=by simpa using Array.mem_of_getElem? ht
    have hall:([22,3,22,25,26,3].all fun u=> !Tryz.prog.wantsStandIn u)=true:=by kernel_rfl
    exact(show Tryz.prog.wantsStandIn t=false by simpa using List.all_eq_true.1 hall t hm)⟩)
  (by kernel_rfl)
#print axioms proved
end Go.Proofs.YtgfanjebfjeneaaGreatDoor.topSmoothsDone
