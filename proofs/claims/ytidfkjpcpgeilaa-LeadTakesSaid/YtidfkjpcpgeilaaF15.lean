/- Walk 15. -/

import Derived.Test.YtidfkjpcpgeilaaF14
open Go Go.Abs Go.Proofs
set_option maxRecDepth 100000
set_option maxHeartbeats 4000000
set_option linter.unusedSimpArgs false
set_option linter.unusedVariables false
open Ldr
def Two (hp:List AObj) (a b:Nat) (me n:Int) (p:Lv) (r:Rv):Prop:= ∃F G,StL hp a me n p F∧StR hp b me n r G∧ ∀i∈a :: F,i∉b :: G
theorem two_l {hp hp':List AObj} {a b:Nat} {me n:Int} {p':Lv} {r:Rv} {F F' G:List Nat} (h1:StL hp' a me n p' F') (h2:Stp hp hp' a F F') (h3:StR hp b me n r G) (hd: ∀i∈a :: F,i∉b :: G):StR hp' b me n r G∧ ∀i∈a :: F',i∉b :: G:=by
 refine ⟨h3.keep h2.1 fun i hi hj=>hd i hj hi,fun i hi hj=>?_⟩
 have hl:=h3.lt i hj
 rcases List.mem_cons.1 hi with rfl | hi
 ·exact hd i (List.mem_cons_self ..) hj
 ·rcases h2.2 i hi with h | h
  ·exact hd i (List.mem_cons_of_mem _ h) hj
  ·omega
theorem two_r {hp hp':List AObj} {a b:Nat} {me n:Int} {p:Lv} {r':Rv} {F G G':List Nat} (h1:StR hp' b me n r' G') (h2:Stp hp hp' b G G') (h3:StL hp a me n p F) (hd: ∀i∈a :: F,i∉b :: G):Two hp' a b me n p r':=by
 refine ⟨F,G',h3.keep h2.1 hd,h1,fun i hi hj=>?_⟩
 have hl:=h3.lt i hi
 rcases List.mem_cons.1 hj with rfl | hj
 ·exact hd i hi (List.mem_cons_self ..)
 ·rcases h2.2 i hj with h | h
  ·exact hd i hi (List.mem_cons_of_mem _ h)
  ·omega
def Small (j:Nat) (r:Rv):Prop:=r.P.length≤j∧r.ack.length≤j∧ ∀p∈r.P,p.2.length≤1000
theorem Small.mono {j k:Nat} {r:Rv} (h:Small j r) (hk:j≤k):Small k r:=⟨Nat.le_trans h.1 hk,Nat.le_trans h.2.1 hk,h.2.2⟩
theorem asc_len {β:Type}: ∀{l:List (Int×β)} {lo hi:Int},(l.Pairwise fun a b=>a.1<b.1)→(∀e∈l,lo≤e.1∧e.1<hi)→lo≤hi→(l.length:Int)≤hi - lo
 | [],lo,hi,_,_,h=>by simp; omega
 | a :: l,lo,hi,hp,h,hl=>by
  have hp':=List.pairwise_cons.1 hp
  have ha:=h a (List.mem_cons_self ..)
  have:=asc_len (lo:=a.1+1) (hi:=hi) hp'.2 (fun e he=>⟨by have:=hp'.1 e he; omega,(h e (List.mem_cons_of_mem _ he)).2⟩) (by omega)
  simp only[List.length_cons]
  omega
theorem Rel.len {n:Int} {p:Lv} {r:Rv} (h:Rel n p r):p.op.length≤400:=by
 have h1:=asc_len (lo:=0) (hi:=400) h.asc (fun e he=>⟨(h.lt e he).1,by have:=(h.lt e he).2; have:=h.nx0; omega⟩) (by decide)
 omega
theorem Rel.rlen {n:Int} {p:Lv} {r:Rv} (h:Rel n p r):r.op.length≤400:=by
 rw[←h.op,List.length_map]
 exact h.len
theorem Rel.rasc {n:Int} {p:Lv} {r:Rv} (h:Rel n p r):r.op.Pairwise fun a b=>a.1<b.1:=by
 rw[←h.op,List.pairwise_map]
 exact h.asc
theorem small_prom {n:Int} {j:Nat} {r:Rv} {k rd rn:Int} {vs:List Vt} (h:Small j r) (hv:vs.length≤1000):Small (j+1) (prR n r k rd rn vs).1:=by
 have ht:Small (j+1) (takeR r k vs):=⟨by simp[takeR]; exact h.1,Nat.le_succ_of_le h.2.1,fun p hp=>by
  rcases List.mem_append.1 hp with hp | hp
  ·exact h.2.2 p hp
  ·rw[List.mem_singleton.1 hp]; exact hv⟩
 unfold prR
 split
 ·split
  ·exact ht
  ·exact ht
 ·exact h.mono (Nat.le_succ _)
theorem small_prop {j:Nat} {r:Rv} {val:ByteArray} (h:Small j r):Small (j+1) (propR r val):=by
 unfold propR
 split <;> exact h.mono (Nat.le_succ _)
theorem small_acc {n:Int} {j:Nat} {r:Rv} {k rd rn slot:Int} (h:Small j r):Small (j+1) (accR n r k rd rn slot).1:=by
 have ha:(r.ack++ [(k,slot)]).length≤j+1:=by simp; exact h.2.1
 unfold accR
 split
 ·exact h.mono (Nat.le_succ _)
 ·split
  ·split
   ·exact ⟨Nat.le_succ_of_le h.1,ha,h.2.2⟩
   ·exact ⟨Nat.le_succ_of_le h.1,ha,h.2.2⟩
  ·exact h.mono (Nat.le_succ _)
theorem ans_eq {o o':Option ByteArray} (h:o=o'):ansA o=ansA o':=by rw[h]
namespace LStep
noncomputable def cr (p:List Dir):Code:=sub p (bodyOf Try.f15)
section
attribute [local simp] ofV ofCell ofCells seqA_nil seqA_cons seqVK_eq seqEK_eq wantedA yieldedA isVal effA ev evs evps putE optsA optsOk valA fieldAddrA fieldA loadA partA aggA isAggD buildA placesA fillA lay storeA AV.withCells buildSliceA elemsA rowParts fzL promL okE isSrc bytesOk pushA cxOf lenA binA intBinA strBinA unA indexAddrA eqA AVs.inb AV.inb Loc.inb calleeA opsOf sub bodyOf Env.get_set quietA_nil quietA_cons quietK_none quietK_some qstep newA isNew escNew boxOk newLoc flat rowPartsQ quietN quietOp isBS List.takeWhile finishA_eq finK_ret finK_normal retK backK resA oneA AV.back AVs.back execW_seq_eq seqK_normal seqK_ret seqK_exit execW_cond_eq condK_true condK_false execW_block_eq blockK_exit blockK_normal blockK_ret execW_region_eq regK_eq execW_skip execW_exit execW_ret regionA_plain regionA_quiet0 tailK_eq nilCheckA guardOk isConst lookupA keyFits mapUpdateA beqI bneI mixZ_nil mixZ_cons mixKZ_eq tKZ_pre tKZ_eq tK_pre tK_eq vK_eq resv_eq stepZ_0 stepZ_1n stepZ_1s stepZ_2 stepZ_3 stepZ_4 stepZ_5 cutCall newZ tchkL agreeB Op.operands sameO truncM beq_bool beq_int beq_str beq_nilp beq_ptr beq_eptr beq_nils beq_row beq_nilm beq_map beq_agg beq_sl beqs_nil beqs_cons
theorem rA (cx:Cx) (env:Env) (σ:AS) (kd rd rn nn node:Int) (X:AV) (val:ByteArray) (hp s:List AObj) (hlen:env.length=150) (hcx:cx.esc= []) (f2:Env.get env 2= .agg [.int .i64 kd, .int .u64 rd, .int .i64 rn, .int .i64 nn, .int .i64 node,X, .str val]) (hX:Plain X) (hσ:σ=⟨hp,s⟩) (hro0:cx.ro=none):
  Pc Try.prog how cx [2000007,2000013,2000021] 150 [5,6] (cr [.l]) env σ (.normal) (AS.mk hp (s++ [.cells [.int .i64 kd, .int .u64 rd, .int .i64 rn, .int .i64 nn, .int .i64 node,X, .str val]])) (fun env'=>Env.get env' 5= .ptr (.st s.length) 0∧Env.get env' 6= .bool false):=by
 refine pc_of fun res hr=>?_
 simp -implicitDefEqProofs [AS.get_push_at,AS.get_push_old,AS.push_len,AS.set_st_len,AS.next_st',AS.set_push_at,AS.get_set_self,AS.get_set_other,cr,Try.f15,hlen,hcx,f2,hX.one,hX.inb,hX.row,hX.cells,hσ,hro0] at hr
 subst hr
 refine ⟨_,rfl,by simp[hlen],by simp[Env.get_set,hlen,f2,hX.one,hX.inb,hX.row,hX.cells,hσ,hro0],fun i hi=>?_⟩
 simp only[List.mem_cons,List.not_mem_nil,or_false,not_or] at hi
 simp only[putE,get_set2,hi,false_and,if_false]
theorem rB (cx:Cx) (env:Env) (σ:AS) (kd rd rn nn node:Int) (X:AV) (val:ByteArray) (i:Nat) (V:AV) (hp s:List AObj) (hlen:env.length=150) (hcx:cx.esc= []) (f5:Env.get env 5= .ptr (.st i) 0) (hX:Plain X) (hσ:σ=⟨hp,s⟩) (g5:(AS.mk hp s).get (.st i)=some (.cells [.int .i64 kd, .int .u64 rd, .int .i64 rn, .int .i64 nn, .int .i64 node,X, .str val])) (k1:callW Try.prog how 9 [X] ⟨hp,s⟩ cx.ro=some (.tup [V,V],⟨hp,s⟩)):
  Pc Try.prog how cx [2000007,2000013,2000021] 150 [7,8,22,23,24,25,26,27] (cr [.r, .l]) env σ (.normal) (AS.mk hp s) (fun env'=>Env.get env' 7=V∧Env.get env' 8=V):=by
 refine pc_of fun res hr=>?_
 simp -implicitDefEqProofs [AS.get_push_at,AS.get_push_old,AS.push_len,AS.set_st_len,AS.next_st',AS.set_push_at,AS.get_set_self,AS.get_set_other,cr,Try.f15,hlen,hcx,f5,hX.one,hX.inb,hX.row,hX.cells,hσ,g5,k1] at hr
 subst hr
 refine ⟨_,rfl,by simp[hlen],by simp[Env.get_set,hlen,f5,hX.one,hX.inb,hX.row,hX.cells,hσ,g5,k1],fun i hi=>?_⟩
 simp only[List.mem_cons,List.not_mem_nil,or_false,not_or] at hi
 simp only[putE,get_set2,hi,false_and,if_false]
theorem rC (cx:Cx) (env:Env) (σ:AS) (kd rd rn nn node:Int) (X:AV) (val:ByteArray) (i:Nat) (hp s:List AObj) (hlen:env.length=150) (hcx:cx.esc= []) (f5:Env.get env 5= .ptr (.st i) 0) (hX:Plain X) (hσ:σ=⟨hp,s⟩) (hro0:cx.ro=none) (hh:cx.h≤s.length) (g5:(AS.mk hp s).get (.st i)=some (.cells [.int .i64 kd, .int .u64 rd, .int .i64 rn, .int .i64 nn, .int .i64 node,X, .str val])):
  Pc Try.prog how cx [2000007,2000013,2000021] 150 [9,28,29] (cr [.r, .r, .l]) env σ (.normal) (AS.mk hp (s++ [.cells [.int .u64 rd, .int .i64 rn]])) (fun env'=>Env.get env' 9= .ptr (.st s.length) 0):=by
 refine pc_of fun res hr=>?_
 simp -implicitDefEqProofs [AS.get_push_at,AS.get_push_old,AS.push_len,AS.set_st_len,AS.next_st',AS.set_push_at,AS.get_set_self,AS.get_set_other,cr,Try.f15,hlen,hcx,f5,hX.one,hX.inb,hX.row,hX.cells,hσ,hro0,hh,g5,wok] at hr
 subst hr
 refine ⟨_,rfl,by simp[hlen],by simp[Env.get_set,hlen,f5,hX.one,hX.inb,hX.row,hX.cells,hσ,hro0,hh,g5,wok],fun i hi=>?_⟩
 simp only[List.mem_cons,List.not_mem_nil,or_false,not_or] at hi
 simp only[putE,get_set2,hi,false_and,if_false]
theorem rD (cx:Cx) (env:Env) (σ:AS) (kd rd rn nn node:Int) (X:AV) (val:ByteArray) (i:Nat) (hlen:env.length=150) (hcx:cx.esc= []) (f5:Env.get env 5= .ptr (.st i) 0) (hX:Plain X) (g5:σ.get (.st i)=some (.cells [.int .i64 kd, .int .u64 rd, .int .i64 rn, .int .i64 nn, .int .i64 node,X, .str val])):
  Pc Try.prog how cx [2000007,2000013,2000021] 150 [30,31,32] (cr [.r, .r, .r, .l, .l]) env σ (.normal) (σ) (fun env'=>Env.get env' 32= .bool (decide (kd<7))):=by
 refine pc_of fun res hr=>?_
 simp -implicitDefEqProofs [AS.get_push_at,AS.get_push_old,AS.push_len,AS.set_st_len,AS.next_st',AS.set_push_at,AS.get_set_self,AS.get_set_other,cr,Try.f15,hlen,hcx,f5,hX.one,hX.inb,hX.row,hX.cells,g5] at hr
 subst hr
 refine ⟨_,rfl,by simp[hlen],by simp[Env.get_set,hlen,f5,hX.one,hX.inb,hX.row,hX.cells,g5],fun i hi=>?_⟩
 simp only[List.mem_cons,List.not_mem_nil,or_false,not_or] at hi
 simp only[putE,get_set2,hi,false_and,if_false]
theorem rE (cx:Cx) (env:Env) (σ:AS) (b:Nat) (me n st br bn fr nx:Int) (XP XA XO:AV) (x y:Int) (j:Nat) (hp s:List AObj) (hlen:env.length=150) (hcx:cx.esc= []) (f1:Env.get env 1= .ptr (.hp b) 0) (f9:Env.get env 9= .ptr (.st j) 0) (hX1:XP.one=true) (hA1:XA.one=true) (hO1:XO.one=true) (hσ:σ=⟨hp,s⟩) (hro0:cx.ro=none) (hj:cx.h≤j) (hB:(AS.mk hp s).get (.hp b)=some (.cells [.int .i64 me, .int .i64 n, .int .i64 st, .int .u64 br, .int .i64 bn, .int .i64 fr,XP,XA,XO, .int .i64 nx])) (g9:(AS.mk hp s).get (.st j)=some (.cells [.int .u64 x, .int .i64 y])):
  Pc Try.prog how cx [2000007,2000013,2000021] 150 [33,34,35,36] (cr [.r, .r, .r, .l, .r, .l]) env σ (.normal) (AS.mk hp (s.set j (.cells [.int .u64 br, .int .i64 bn]))) (fun _=>True):=by
 refine pc_of fun res hr=>?_
 simp -implicitDefEqProofs [AS.get_push_at,AS.get_push_old,AS.push_len,AS.set_st_len,AS.next_st',AS.set_push_at,AS.get_set_self,AS.get_set_other,cr,Try.f15,hlen,hcx,f1,f9,hX1,hA1,hO1,hσ,hro0,hj,hB,g9,AS.set,wok] at hr
 subst hr
 refine ⟨_,rfl,by simp[hlen],by simp[Env.get_set,hlen,f1,f9,hX1,hA1,hO1,hσ,hro0,hj,hB,g9,AS.set,wok],fun i hi=>?_⟩
 simp only[List.mem_cons,List.not_mem_nil,or_false,not_or] at hi
 simp only[putE,get_set2,hi,false_and,if_false]
theorem rF (cx:Cx) (env:Env) (σ:AS) (kd rd rn nn node:Int) (X:AV) (val:ByteArray) (i:Nat) (hlen:env.length=150) (hcx:cx.esc= []) (f5:Env.get env 5= .ptr (.st i) 0) (hX:Plain X) (g5:σ.get (.st i)=some (.cells [.int .i64 kd, .int .u64 rd, .int .i64 rn, .int .i64 nn, .int .i64 node,X, .str val])):
  Pc Try.prog how cx [2000007,2000013,2000021] 150 [37,38] (cr [.r, .r, .r, .r, .l, .l]) env σ (.normal) (σ) (fun env'=>Env.get env' 38= .int .i64 kd):=by
 refine pc_of fun res hr=>?_
 simp -implicitDefEqProofs [AS.get_push_at,AS.get_push_old,AS.push_len,AS.set_st_len,AS.next_st',AS.set_push_at,AS.get_set_self,AS.get_set_other,cr,Try.f15,hlen,hcx,f5,hX.one,hX.inb,hX.row,hX.cells,g5] at hr
 subst hr
 refine ⟨_,rfl,by simp[hlen],by simp[Env.get_set,hlen,f5,hX.one,hX.inb,hX.row,hX.cells,g5],fun i hi=>?_⟩
 simp only[List.mem_cons,List.not_mem_nil,or_false,not_or] at hi
 simp only[putE,get_set2,hi,false_and,if_false]
theorem r6 (cx:Cx) (env:Env) (σ:AS) (kd:Int) (hlen:env.length=150) (hcx:cx.esc= []) (f38:Env.get env 38= .int .i64 kd):
  Pc Try.prog how cx [2000007,2000013,2000021] 150 [39,40] (cr [.r, .r, .r, .r, .l, .r, .i, .l]) env σ (.normal) (σ) (fun env'=>Env.get env' 39= .bool (decide (kd=0))):=by
 refine pc_of fun res hr=>?_
 simp -implicitDefEqProofs [AS.get_push_at,AS.get_push_old,AS.push_len,AS.set_st_len,AS.next_st',AS.set_push_at,AS.get_set_self,AS.get_set_other,cr,Try.f15,hlen,hcx,f38] at hr
 subst hr
 refine ⟨_,rfl,by simp[hlen],by simp[Env.get_set,hlen,f38],fun i hi=>?_⟩
 simp only[List.mem_cons,List.not_mem_nil,or_false,not_or] at hi
 simp only[putE,get_set2,hi,false_and,if_false]
theorem r10 (cx:Cx) (env:Env) (σ:AS) (kd:Int) (hlen:env.length=150) (hcx:cx.esc= []) (f38:Env.get env 38= .int .i64 kd):
  Pc Try.prog how cx [2000007,2000013,2000021] 150 [69,70,71,72] (cr [.r, .r, .r, .r, .l, .r, .i, .r, .r, .l]) env σ (.normal) (σ) (fun env'=>Env.get env' 69= .bool (decide (kd=1) || (decide (kd=2) || decide (kd=7)))):=by
 by_cases q1:kd=1 <;> by_cases q2:kd=2
 all_goals first | (fail; done) | (
   refine pc_of fun res hr=>?_
   simp -implicitDefEqProofs [AS.get_push_at,AS.get_push_old,AS.push_len,AS.set_st_len,AS.next_st',AS.set_push_at,AS.get_set_self,AS.get_set_other,cr,Try.f15,hlen,hcx,f38,q1,q2] at hr
   subst hr
   refine ⟨_,rfl,by simp[hlen],by simp[Env.get_set,hlen,f38,q1,q2],fun i hi=>?_⟩
   simp only[List.mem_cons,List.not_mem_nil,or_false,not_or] at hi
   simp only[putE,get_set2,hi,false_and,if_false]
  )
theorem r14 (cx:Cx) (env:Env) (σ:AS) (kd:Int) (hlen:env.length=150) (hcx:cx.esc= []) (f38:Env.get env 38= .int .i64 kd):
  Pc Try.prog how cx [2000007,2000013,2000021] 150 [87,88] (cr [.r, .r, .r, .r, .l, .r, .i, .r, .r, .r, .r, .l]) env σ (.normal) (σ) (fun env'=>Env.get env' 87= .bool (decide (kd=3))):=by
 refine pc_of fun res hr=>?_
 simp -implicitDefEqProofs [AS.get_push_at,AS.get_push_old,AS.push_len,AS.set_st_len,AS.next_st',AS.set_push_at,AS.get_set_self,AS.get_set_other,cr,Try.f15,hlen,hcx,f38] at hr
 subst hr
 refine ⟨_,rfl,by simp[hlen],by simp[Env.get_set,hlen,f38],fun i hi=>?_⟩
 simp only[List.mem_cons,List.not_mem_nil,or_false,not_or] at hi
 simp only[putE,get_set2,hi,false_and,if_false]
theorem r18 (cx:Cx) (env:Env) (σ:AS) (kd:Int) (hlen:env.length=150) (hcx:cx.esc= []) (f38:Env.get env 38= .int .i64 kd):
  Pc Try.prog how cx [2000007,2000013,2000021] 150 [111,112,113,114] (cr [.r, .r, .r, .r, .l, .r, .i, .r, .r, .r, .r, .r, .r, .l]) env σ (.normal) (σ) (fun env'=>Env.get env' 111= .bool (decide (kd=4) || (decide (kd=5) || decide (kd=8)))):=by
 by_cases q1:kd=4 <;> by_cases q2:kd=5
 all_goals first | (fail; done) | (
   refine pc_of fun res hr=>?_
   simp -implicitDefEqProofs [AS.get_push_at,AS.get_push_old,AS.push_len,AS.set_st_len,AS.next_st',AS.set_push_at,AS.get_set_self,AS.get_set_other,cr,Try.f15,hlen,hcx,f38,q1,q2] at hr
   subst hr
   refine ⟨_,rfl,by simp[hlen],by simp[Env.get_set,hlen,f38,q1,q2],fun i hi=>?_⟩
   simp only[List.mem_cons,List.not_mem_nil,or_false,not_or] at hi
   simp only[putE,get_set2,hi,false_and,if_false]
  )
theorem r24 (cx:Cx) (env:Env) (σ:AS) (kd:Int) (hlen:env.length=150) (hcx:cx.esc= []) (f38:Env.get env 38= .int .i64 kd):
  Pc Try.prog how cx [2000007,2000013,2000021] 150 [144,145] (cr [.r, .r, .r, .r, .l, .r, .i, .r, .r, .r, .r, .r, .r, .r, .r, .l]) env σ (.normal) (σ) (fun env'=>Env.get env' 144= .bool (decide (kd=6))):=by
 refine pc_of fun res hr=>?_
 simp -implicitDefEqProofs [AS.get_push_at,AS.get_push_old,AS.push_len,AS.set_st_len,AS.next_st',AS.set_push_at,AS.get_set_self,AS.get_set_other,cr,Try.f15,hlen,hcx,f38] at hr
 subst hr
 refine ⟨_,rfl,by simp[hlen],by simp[Env.get_set,hlen,f38],fun i hi=>?_⟩
 simp only[List.mem_cons,List.not_mem_nil,or_false,not_or] at hi
 simp only[putE,get_set2,hi,false_and,if_false]
noncomputable def m7_q:List Oper:=opsOf (cr [.r, .r, .r, .r, .l, .r, .i, .r, .l, .l])
def m7_plan:List (Nat×List Nat):= [(0,[]),(0,[]),(1,[]),(5,[0,5]),(0,[]),(1,[]),(5,[0]),(0,[]),(0,[]),(0,[]),(3,[1,1]),(4,[0]),(0,[])]
theorem m7_reg:(cr [.r, .r, .r, .r, .l, .r, .i, .r, .l, .l])= .region 7 m7_q.toArray true:=by kernel_rfl
theorem m7_ok (h:Nat) (ro:Option Nat):planOkZ Try.prog (Cx.mk h ro []) m7_q m7_plan=true:=by kernel_rfl
theorem m7_lt:anyLT Try.prog m7_q=true:=by kernel_rfl
theorem m7_room (h:Nat) (ro:Option Nat):cntM Try.prog m7_q (newSt (Cx.mk h ro [])) 0 m7_q.length=1:=by kernel_rfl
theorem m7 (h:Nat) (ro:Option Nat) (hp s:List AObj) (env:Env) (kd rd rn nn node:Int) (X:AV) (val:ByteArray) (a i:Nat) (x y e:Int) (hp1:List AObj) (hlen:env.length=150) (f0:Env.get env 0= .ptr (.hp a) 0) (f5:Env.get env 5= .ptr (.st i) 0) (hX:Plain X) (hro0:ro=none) (gI: ∀H t,(AS.mk H (s++t)).get (.st i)=some (.cells [.int .i64 kd, .int .u64 rd, .int .i64 rn, .int .i64 nn, .int .i64 node,X, .str val])) (gI0: ∀H,(AS.mk H s).get (.st i)=some (.cells [.int .i64 kd, .int .u64 rd, .int .i64 rn, .int .i64 nn, .int .i64 node,X, .str val])) (k1: ∀H s,callW Try.prog how 34 [.agg [.int .u64 rd, .int .i64 rn]] ⟨H,s⟩ none=some (.agg [.int .u64 rd, .int .i64 rn],⟨H,s⟩)) (k2:callW Try.prog how 7 [.ptr (.hp a) 0, .agg [.int .u64 rd, .int .i64 rn], .int .i64 nn] ⟨hp,s⟩ none=some (.tup [.agg [.int .u64 x, .int .i64 y], .int .i64 e],⟨hp1,s⟩)) (hle:hp.length≤hp1.length):
  Pc Try.prog how (Cx.mk h ro []) [2000007,2000013,2000021] 150 [10,11,41,42,43,44,45,46,47,48,49,50] (cr [.r, .r, .r, .r, .l, .r, .i, .r, .l, .l]) env ⟨hp,s⟩ .normal ⟨hp1,s++ [.cells [.int .u64 x, .int .i64 y]]⟩ (fun env'=>Env.get env' 10= .ptr (.st s.length) 0∧Env.get env' 11= .int .i64 e):=by
 refine pc_of fun res hr=>?_
 rw[m7_reg,execW_region_eq] at hr
 rw[show (m7_q.toArray).toList=m7_q from rfl,regionA_mix rfl rfl] at hr
 generalize h1:mixZ Try.prog (Cx.mk h ro []) (callW Try.prog how) ⟨hp,s⟩ m7_q true none (m7_q.zip m7_plan) env (resv (cntM Try.prog m7_q (newSt (Cx.mk h ro [])) 0 m7_q.length) ⟨hp,s⟩)=r1 at*
 have h1':=h1
 rw[m7_room h ro] at h1'
 simp -implicitDefEqProofs [m7_plan,m7_q,cr,Try.f15,hlen,f0,f5,hX.one,hX.inb,hX.row,hX.cells,hro0,gI,gI0,k1,k2,hle,noHp,newHp,isNew,escNew,List.all_cons,List.all_nil,wok] at h1'
 subst h1'
 rw[mixA_planZ2 (m7_ok h ro) m7_lt h1,m7_room h ro] at hr
 simp -implicitDefEqProofs [m7_plan,m7_q,cr,Try.f15,hlen,f0,f5,hX.one,hX.inb,hX.row,hX.cells,hro0,gI,gI0,k1,k2,hle,noHp,newHp,isNew,escNew,List.all_cons,List.all_nil,wok] at hr
 subst hr
 refine ⟨_,rfl,by simp[hlen],by simp[Env.get_set,hlen,f0,f5,hX.one,hX.inb,hX.row,hX.cells,hro0,gI,gI0,k1,k2,hle,noHp,newHp,isNew,escNew,List.all_cons,List.all_nil,wok],fun i hi=>?_⟩
 simp only[List.mem_cons,List.not_mem_nil,or_false,not_or] at hi
 simp only[putE,get_set2,hi,false_and,if_false]
theorem r8 (cx:Cx) (env:Env) (σ:AS) (kd rd rn nn node:Int) (X:AV) (val:ByteArray) (b i:Nat) (x y e:Int) (hp1:List AObj) (hp s:List AObj) (hlen:env.length=150) (hcx:cx.esc= []) (f1:Env.get env 1= .ptr (.hp b) 0) (f5:Env.get env 5= .ptr (.st i) 0) (hX:Plain X) (hσ:σ=⟨hp,s⟩) (hro0:cx.ro=none) (hh:cx.h≤s.length) (g5:(AS.mk hp s).get (.st i)=some (.cells [.int .i64 kd, .int .u64 rd, .int .i64 rn, .int .i64 nn, .int .i64 node,X, .str val])) (k3:callW Try.prog how 35 [.ptr (.hp b) 0, .agg [.int .u64 rd, .int .i64 rn], .int .i64 nn] ⟨hp,s⟩ none=some (.tup [.agg [.int .u64 x, .int .i64 y], .int .i64 e],⟨hp1,s⟩)):
  Pc Try.prog how cx [2000007,2000013,2000021] 150 [12,13,51,52,53,54,55,56,57,58,59] (cr [.r, .r, .r, .r, .l, .r, .i, .r, .l, .r, .l]) env σ (.normal) (AS.mk hp1 (s++ [.cells [.int .u64 x, .int .i64 y]])) (fun env'=>Env.get env' 12= .ptr (.st s.length) 0∧Env.get env' 13= .int .i64 e):=by
 refine pc_of fun res hr=>?_
 simp -implicitDefEqProofs [AS.get_push_at,AS.get_push_old,AS.push_len,AS.set_st_len,AS.next_st',AS.set_push_at,AS.get_set_self,AS.get_set_other,cr,Try.f15,hlen,hcx,f1,f5,hX.one,hX.inb,hX.row,hX.cells,hσ,hro0,hh,g5,k3,wok] at hr
 subst hr
 refine ⟨_,rfl,by simp[hlen],by simp[Env.get_set,hlen,f1,f5,hX.one,hX.inb,hX.row,hX.cells,hσ,hro0,hh,g5,k3,wok],fun i hi=>?_⟩
 simp only[List.mem_cons,List.not_mem_nil,or_false,not_or] at hi
 simp only[putE,get_set2,hi,false_and,if_false]
theorem r9 (cx:Cx) (env:Env) (σ:AS) (x y e:Int) (i j:Nat) (hp s:List AObj) (hlen:env.length=150) (hcx:cx.esc= []) (f10:Env.get env 10= .ptr (.st i) 0) (f11:Env.get env 11= .int .i64 e) (f12:Env.get env 12= .ptr (.st j) 0) (f13:Env.get env 13= .int .i64 e) (hσ:σ=⟨hp,s⟩) (gi:(AS.mk hp s).get (.st i)=some (.cells [.int .u64 x, .int .i64 y])) (gj:(AS.mk hp s).get (.st j)=some (.cells [.int .u64 x, .int .i64 y])) (k4:callW Try.prog how 17 [.agg [.int .u64 x, .int .i64 y]] ⟨hp,s⟩ (some s.length)=some (.agg [.int .u64 x, .int .i64 y],⟨hp,s⟩)):
  Pc Try.prog how cx [2000007,2000013,2000021] 150 [6,60,61,62,63,64,65,66,67,68] (cr [.r, .r, .r, .r, .l, .r, .i, .r, .l, .r, .r, .l]) env σ (.normal) (AS.mk hp s) (fun env'=>Env.get env' 6= .bool true):=by
 refine pc_of fun res hr=>?_
 simp -implicitDefEqProofs [-eqA,AS.get_push_at,AS.get_push_old,AS.push_len,AS.set_st_len,AS.next_st',AS.set_push_at,AS.get_set_self,AS.get_set_other,cr,Try.f15,hlen,hcx,f10,f11,f12,f13,hσ,gi,gj,k4,gd37,eqB37,regionA_quietM (tails:= [2000007,2000013,2000021]) (id:=9) (m:=0) rfl rfl rfl] at hr
 subst hr
 refine ⟨_,rfl,by simp[hlen],by simp[Env.get_set,hlen,f10,f11,f12,f13,hσ,gi,gj,k4,gd37,eqB37,regionA_quietM (tails:= [2000007,2000013,2000021]) (id:=9) (m:=0) rfl rfl rfl],fun i hi=>?_⟩
 simp only[List.mem_cons,List.not_mem_nil,or_false,not_or] at hi
 simp only[putE,get_set2,hi,false_and,if_false]
noncomputable def m13_q:List Oper:=opsOf (cr [.r, .r, .r, .r, .l, .r, .i, .r, .r, .r, .l, .l])
def m13_plan:List (Nat×List Nat):= [(0,[]),(0,[]),(1,[]),(2,[]),(4,[0,2,9,10]),(0,[]),(4,[0,9,10]),(0,[]),(0,[]),(1,[]),(1,[]),(0,[]),(4,[0]),(0,[]),(0,[])]
theorem m13_reg:(cr [.r, .r, .r, .r, .l, .r, .i, .r, .r, .r, .l, .l])= .region 13 m13_q.toArray true:=by kernel_rfl
theorem m13_ok (h:Nat) (ro:Option Nat):planOkZ Try.prog (Cx.mk h ro []) m13_q m13_plan=true:=by kernel_rfl
theorem m13_lt:anyLT Try.prog m13_q=true:=by kernel_rfl
theorem m13_room (h:Nat) (ro:Option Nat):cntM Try.prog m13_q (newSt (Cx.mk h ro [])) 0 m13_q.length=0:=by kernel_rfl
theorem m13 (h:Nat) (ro:Option Nat) (hp s:List AObj) (env:Env) (kd rd rn nn node:Int) (X:AV) (val:ByteArray) (a b i j:Nat) (p q:Int) (V:AV) (z:Bool) (hp1 hp2:List AObj) (hlen:env.length=150) (f0:Env.get env 0= .ptr (.hp a) 0) (f1:Env.get env 1= .ptr (.hp b) 0) (f5:Env.get env 5= .ptr (.st i) 0) (f7:Env.get env 7=V) (f8:Env.get env 8=V) (f9:Env.get env 9= .ptr (.st j) 0) (hX:Plain X) (hro0:ro=none) (gI: ∀H t,(AS.mk H (s++t)).get (.st i)=some (.cells [.int .i64 kd, .int .u64 rd, .int .i64 rn, .int .i64 nn, .int .i64 node,X, .str val])) (gI0: ∀H,(AS.mk H s).get (.st i)=some (.cells [.int .i64 kd, .int .u64 rd, .int .i64 rn, .int .i64 nn, .int .i64 node,X, .str val])) (gJ: ∀H t,(AS.mk H (s++t)).get (.st j)=some (.cells [.int .u64 p, .int .i64 q])) (gJ0: ∀H,(AS.mk H s).get (.st j)=some (.cells [.int .u64 p, .int .i64 q])) (hbV:AV.beq V V=true) (k1: ∀H s,callW Try.prog how 34 [.agg [.int .u64 p, .int .i64 q]] ⟨H,s⟩ none=some (.agg [.int .u64 p, .int .i64 q],⟨H,s⟩)) (k2:callW Try.prog how 10 [.ptr (.hp a) 0, .int .i64 node, .agg [.int .u64 p, .int .i64 q],V] ⟨hp,s⟩ none=some (.bool z,⟨hp1,s⟩)) (k3:callW Try.prog how 11 [.ptr (.hp b) 0, .int .i64 node, .agg [.int .u64 p, .int .i64 q],V] ⟨hp1,s⟩ none=some (.bool z,⟨hp2,s⟩)) (hle:hp.length≤hp1.length) (hle2:hp1.length≤hp2.length) (hle3:hp.length≤hp2.length):
  Pc Try.prog how (Cx.mk h ro []) [2000007,2000013,2000021] 150 [6,73,74,75,76,77,78,79,80,81,82,83,84,85,86] (cr [.r, .r, .r, .r, .l, .r, .i, .r, .r, .r, .l, .l]) env ⟨hp,s⟩ .normal ⟨hp2,s⟩ (fun env'=>Env.get env' 6= .bool true):=by
 refine pc_of fun res hr=>?_
 rw[m13_reg,execW_region_eq] at hr
 rw[show (m13_q.toArray).toList=m13_q from rfl,regionA_mix rfl rfl] at hr
 generalize h1:mixZ Try.prog (Cx.mk h ro []) (callW Try.prog how) ⟨hp,s⟩ m13_q true none (m13_q.zip m13_plan) env (resv (cntM Try.prog m13_q (newSt (Cx.mk h ro [])) 0 m13_q.length) ⟨hp,s⟩)=r1 at*
 have h1':=h1
 rw[m13_room h ro] at h1'
 simp -implicitDefEqProofs [m13_plan,m13_q,cr,Try.f15,hlen,f0,f1,f5,f7,f8,f9,hX.one,hX.inb,hX.row,hX.cells,hro0,gI,gI0,gJ,gJ0,hbV,k1,k2,k3,hle,hle2,hle3,noHp,newHp,isNew,escNew,List.all_cons,List.all_nil,wok] at h1'
 subst h1'
 rw[mixA_planZ2 (m13_ok h ro) m13_lt h1,m13_room h ro] at hr
 simp -implicitDefEqProofs [m13_plan,m13_q,cr,Try.f15,hlen,f0,f1,f5,f7,f8,f9,hX.one,hX.inb,hX.row,hX.cells,hro0,gI,gI0,gJ,gJ0,hbV,k1,k2,k3,hle,hle2,hle3,noHp,newHp,isNew,escNew,List.all_cons,List.all_nil,wok] at hr
 subst hr
 refine ⟨_,rfl,by simp[hlen],by simp[Env.get_set,hlen,f0,f1,f5,f7,f8,f9,hX.one,hX.inb,hX.row,hX.cells,hro0,gI,gI0,gJ,gJ0,hbV,k1,k2,k3,hle,hle2,hle3,noHp,newHp,isNew,escNew,List.all_cons,List.all_nil,wok],fun i hi=>?_⟩
 simp only[List.mem_cons,List.not_mem_nil,or_false,not_or] at hi
 simp only[putE,get_set2,hi,false_and,if_false]
noncomputable def m21_q:List Oper:=opsOf (cr [.r, .r, .r, .r, .l, .r, .i, .r, .r, .r, .r, .r, .r, .r, .l, .l])
def m21_plan:List (Nat×List Nat):= [(0,[]),(0,[]),(1,[]),(2,[]),(4,[0,2,6]),(0,[]),(1,[]),(4,[0]),(0,[]),(0,[]),(0,[]),(0,[]),(0,[])]
theorem m21_reg:(cr [.r, .r, .r, .r, .l, .r, .i, .r, .r, .r, .r, .r, .r, .r, .l, .l])= .region 21 m21_q.toArray true:=by kernel_rfl
theorem m21_ok (h:Nat) (ro:Option Nat):planOkZ Try.prog (Cx.mk h ro []) m21_q m21_plan=true:=by kernel_rfl
theorem m21_lt:anyLT Try.prog m21_q=true:=by kernel_rfl
theorem m21_room (h:Nat) (ro:Option Nat):cntM Try.prog m21_q (newSt (Cx.mk h ro [])) 0 m21_q.length=0:=by kernel_rfl
theorem m21 (h:Nat) (ro:Option Nat) (hp s:List AObj) (env:Env) (kd rd rn nn node:Int) (X:AV) (val:ByteArray) (a i j:Nat) (p q:Int) (v:ByteArray) (z:Bool) (hp1:List AObj) (hlen:env.length=150) (f0:Env.get env 0= .ptr (.hp a) 0) (f5:Env.get env 5= .ptr (.st i) 0) (f9:Env.get env 9= .ptr (.st j) 0) (hX:Plain X) (hro0:ro=none) (gI: ∀H t,(AS.mk H (s++t)).get (.st i)=some (.cells [.int .i64 kd, .int .u64 rd, .int .i64 rn, .int .i64 nn, .int .i64 node,X, .str val])) (gI0: ∀H,(AS.mk H s).get (.st i)=some (.cells [.int .i64 kd, .int .u64 rd, .int .i64 rn, .int .i64 nn, .int .i64 node,X, .str val])) (gJ: ∀H t,(AS.mk H (s++t)).get (.st j)=some (.cells [.int .u64 p, .int .i64 q])) (gJ0: ∀H,(AS.mk H s).get (.st j)=some (.cells [.int .u64 p, .int .i64 q])) (k1: ∀H s,callW Try.prog how 34 [.agg [.int .u64 p, .int .i64 q]] ⟨H,s⟩ none=some (.agg [.int .u64 p, .int .i64 q],⟨H,s⟩)) (k2:callW Try.prog how 23 [.ptr (.hp a) 0, .int .i64 node, .agg [.int .u64 p, .int .i64 q], .int .i64 nn] ⟨hp,s⟩ none=some (.tup [.str v, .bool z],⟨hp1,s⟩)) (hle:hp.length≤hp1.length):
  Pc Try.prog how (Cx.mk h ro []) [2000007,2000013,2000021] 150 [18,19,115,116,117,118,119,120,121,122,123,124,125] (cr [.r, .r, .r, .r, .l, .r, .i, .r, .r, .r, .r, .r, .r, .r, .l, .l]) env ⟨hp,s⟩ .normal ⟨hp1,s⟩ (fun env'=>Env.get env' 18= .str v∧Env.get env' 19= .bool z):=by
 refine pc_of fun res hr=>?_
 rw[m21_reg,execW_region_eq] at hr
 rw[show (m21_q.toArray).toList=m21_q from rfl,regionA_mix rfl rfl] at hr
 generalize h1:mixZ Try.prog (Cx.mk h ro []) (callW Try.prog how) ⟨hp,s⟩ m21_q true none (m21_q.zip m21_plan) env (resv (cntM Try.prog m21_q (newSt (Cx.mk h ro [])) 0 m21_q.length) ⟨hp,s⟩)=r1 at*
 have h1':=h1
 rw[m21_room h ro] at h1'
 simp -implicitDefEqProofs [m21_plan,m21_q,cr,Try.f15,hlen,f0,f5,f9,hX.one,hX.inb,hX.row,hX.cells,hro0,gI,gI0,gJ,gJ0,k1,k2,hle,noHp,newHp,isNew,escNew,List.all_cons,List.all_nil,wok] at h1'
 subst h1'
 rw[mixA_planZ2 (m21_ok h ro) m21_lt h1,m21_room h ro] at hr
 simp -implicitDefEqProofs [m21_plan,m21_q,cr,Try.f15,hlen,f0,f5,f9,hX.one,hX.inb,hX.row,hX.cells,hro0,gI,gI0,gJ,gJ0,k1,k2,hle,noHp,newHp,isNew,escNew,List.all_cons,List.all_nil,wok] at hr
 subst hr
 refine ⟨_,rfl,by simp[hlen],by simp[Env.get_set,hlen,f0,f5,f9,hX.one,hX.inb,hX.row,hX.cells,hro0,gI,gI0,gJ,gJ0,k1,k2,hle,noHp,newHp,isNew,escNew,List.all_cons,List.all_nil,wok],fun i hi=>?_⟩
 simp only[List.mem_cons,List.not_mem_nil,or_false,not_or] at hi
 simp only[putE,get_set2,hi,false_and,if_false]
theorem r22 (cx:Cx) (env:Env) (σ:AS) (kd rd rn nn node:Int) (X:AV) (val:ByteArray) (b i j:Nat) (p q:Int) (v:ByteArray) (z:Bool) (hp1:List AObj) (hp s:List AObj) (hlen:env.length=150) (hcx:cx.esc= []) (f1:Env.get env 1= .ptr (.hp b) 0) (f5:Env.get env 5= .ptr (.st i) 0) (f9:Env.get env 9= .ptr (.st j) 0) (hX:Plain X) (hσ:σ=⟨hp,s⟩) (hro0:cx.ro=none) (g5:(AS.mk hp s).get (.st i)=some (.cells [.int .i64 kd, .int .u64 rd, .int .i64 rn, .int .i64 nn, .int .i64 node,X, .str val])) (g9:(AS.mk hp s).get (.st j)=some (.cells [.int .u64 p, .int .i64 q])) (k3:callW Try.prog how 37 [.ptr (.hp b) 0, .int .i64 node, .agg [.int .u64 p, .int .i64 q], .int .i64 nn] ⟨hp,s⟩ none=some (.tup [.str v, .bool z],⟨hp1,s⟩)):
  Pc Try.prog how cx [2000007,2000013,2000021] 150 [20,21,126,127,128,129,130,131,132,133,134,135] (cr [.r, .r, .r, .r, .l, .r, .i, .r, .r, .r, .r, .r, .r, .r, .l, .r, .l]) env σ (.normal) (AS.mk hp1 s) (fun env'=>Env.get env' 20= .str v∧Env.get env' 21= .bool z):=by
 refine pc_of fun res hr=>?_
 simp -implicitDefEqProofs [AS.get_push_at,AS.get_push_old,AS.push_len,AS.set_st_len,AS.next_st',AS.set_push_at,AS.get_set_self,AS.get_set_other,cr,Try.f15,hlen,hcx,f1,f5,f9,hX.one,hX.inb,hX.row,hX.cells,hσ,hro0,g5,g9,k3] at hr
 subst hr
 refine ⟨_,rfl,by simp[hlen],by simp[Env.get_set,hlen,f1,f5,f9,hX.one,hX.inb,hX.row,hX.cells,hσ,hro0,g5,g9,k3],fun i hi=>?_⟩
 simp only[List.mem_cons,List.not_mem_nil,or_false,not_or] at hi
 simp only[putE,get_set2,hi,false_and,if_false]
theorem r23 (cx:Cx) (env:Env) (σ:AS) (v:ByteArray) (z:Bool) (hlen:env.length=150) (hcx:cx.esc= []) (f18:Env.get env 18= .str v) (f19:Env.get env 19= .bool z) (f20:Env.get env 20= .str v) (f21:Env.get env 21= .bool z):
  Pc Try.prog how cx [2000007,2000013,2000021] 150 [6,136,137,138,139,140,141,142,143] (cr [.r, .r, .r, .r, .l, .r, .i, .r, .r, .r, .r, .r, .r, .r, .l, .r, .r, .l]) env σ (.normal) (σ) (fun env'=>Env.get env' 6= .bool true):=by
 refine pc_of fun res hr=>?_
 simp -implicitDefEqProofs [AS.get_push_at,AS.get_push_old,AS.push_len,AS.set_st_len,AS.next_st',AS.set_push_at,AS.get_set_self,AS.get_set_other,cr,Try.f15,hlen,hcx,f18,f19,f20,f21,beqS_dec] at hr
 subst hr
 refine ⟨_,rfl,by simp[hlen],by simp[Env.get_set,hlen,f18,f19,f20,f21,beqS_dec],fun i hi=>?_⟩
 simp only[List.mem_cons,List.not_mem_nil,or_false,not_or] at hi
 simp only[putE,get_set2,hi,false_and,if_false]
theorem r15 (cx:Cx) (env:Env) (σ:AS) (kd rd rn nn node:Int) (X:AV) (val:ByteArray) (a i:Nat) (x e:Int) (hp1:List AObj) (hp s:List AObj) (hlen:env.length=150) (hcx:cx.esc= []) (f0:Env.get env 0= .ptr (.hp a) 0) (f5:Env.get env 5= .ptr (.st i) 0) (hX:Plain X) (hσ:σ=⟨hp,s⟩) (hro0:cx.ro=none) (g5:(AS.mk hp s).get (.st i)=some (.cells [.int .i64 kd, .int .u64 rd, .int .i64 rn, .int .i64 nn, .int .i64 node,X, .str val])) (k2:callW Try.prog how 22 [.ptr (.hp a) 0, .str val] ⟨hp,s⟩ none=some (.tup [.int .i64 x, .int .i64 e],⟨hp1,s⟩)):
  Pc Try.prog how cx [2000007,2000013,2000021] 150 [14,15,89,90,91,92,93,94,95] (cr [.r, .r, .r, .r, .l, .r, .i, .r, .r, .r, .r, .r, .l, .l]) env σ (.normal) (AS.mk hp1 s) (fun env'=>Env.get env' 14= .int .i64 x∧Env.get env' 15= .int .i64 e):=by
 refine pc_of fun res hr=>?_
 simp -implicitDefEqProofs [AS.get_push_at,AS.get_push_old,AS.push_len,AS.set_st_len,AS.next_st',AS.set_push_at,AS.get_set_self,AS.get_set_other,cr,Try.f15,hlen,hcx,f0,f5,hX.one,hX.inb,hX.row,hX.cells,hσ,hro0,g5,k2] at hr
 subst hr
 refine ⟨_,rfl,by simp[hlen],by simp[Env.get_set,hlen,f0,f5,hX.one,hX.inb,hX.row,hX.cells,hσ,hro0,g5,k2],fun i hi=>?_⟩
 simp only[List.mem_cons,List.not_mem_nil,or_false,not_or] at hi
 simp only[putE,get_set2,hi,false_and,if_false]
theorem r16 (cx:Cx) (env:Env) (σ:AS) (kd rd rn nn node:Int) (X:AV) (val:ByteArray) (b i:Nat) (x e:Int) (hp1:List AObj) (hp s:List AObj) (hlen:env.length=150) (hcx:cx.esc= []) (f1:Env.get env 1= .ptr (.hp b) 0) (f5:Env.get env 5= .ptr (.st i) 0) (hX:Plain X) (hσ:σ=⟨hp,s⟩) (hro0:cx.ro=none) (g5:(AS.mk hp s).get (.st i)=some (.cells [.int .i64 kd, .int .u64 rd, .int .i64 rn, .int .i64 nn, .int .i64 node,X, .str val])) (k2:callW Try.prog how 36 [.ptr (.hp b) 0, .str val] ⟨hp,s⟩ none=some (.tup [.int .i64 x, .int .i64 e],⟨hp1,s⟩)):
  Pc Try.prog how cx [2000007,2000013,2000021] 150 [16,17,96,97,98,99,100,101,102] (cr [.r, .r, .r, .r, .l, .r, .i, .r, .r, .r, .r, .r, .l, .r, .l]) env σ (.normal) (AS.mk hp1 s) (fun env'=>Env.get env' 16= .int .i64 x∧Env.get env' 17= .int .i64 e):=by
 refine pc_of fun res hr=>?_
 simp -implicitDefEqProofs [AS.get_push_at,AS.get_push_old,AS.push_len,AS.set_st_len,AS.next_st',AS.set_push_at,AS.get_set_self,AS.get_set_other,cr,Try.f15,hlen,hcx,f1,f5,hX.one,hX.inb,hX.row,hX.cells,hσ,hro0,g5,k2] at hr
 subst hr
 refine ⟨_,rfl,by simp[hlen],by simp[Env.get_set,hlen,f1,f5,hX.one,hX.inb,hX.row,hX.cells,hσ,hro0,g5,k2],fun i hi=>?_⟩
 simp only[List.mem_cons,List.not_mem_nil,or_false,not_or] at hi
 simp only[putE,get_set2,hi,false_and,if_false]
theorem r17 (cx:Cx) (env:Env) (σ:AS) (x e:Int) (hlen:env.length=150) (hcx:cx.esc= []) (f14:Env.get env 14= .int .i64 x) (f15:Env.get env 15= .int .i64 e) (f16:Env.get env 16= .int .i64 x) (f17:Env.get env 17= .int .i64 e):
  Pc Try.prog how cx [2000007,2000013,2000021] 150 [6,103,104,105,106,107,108,109,110] (cr [.r, .r, .r, .r, .l, .r, .i, .r, .r, .r, .r, .r, .l, .r, .r, .l]) env σ (.normal) (σ) (fun env'=>Env.get env' 6= .bool true):=by
 refine pc_of fun res hr=>?_
 simp -implicitDefEqProofs [AS.get_push_at,AS.get_push_old,AS.push_len,AS.set_st_len,AS.next_st',AS.set_push_at,AS.get_set_self,AS.get_set_other,cr,Try.f15,hlen,hcx,f14,f15,f16,f17] at hr
 subst hr
 refine ⟨_,rfl,by simp[hlen],by simp[Env.get_set,hlen,f14,f15,f16,f17],fun i hi=>?_⟩
 simp only[List.mem_cons,List.not_mem_nil,or_false,not_or] at hi
 simp only[putE,get_set2,hi,false_and,if_false]
theorem r25 (cx:Cx) (env:Env) (σ:AS) (a:Nat) (hp1:List AObj) (hp s:List AObj) (hlen:env.length=150) (hcx:cx.esc= []) (f0:Env.get env 0= .ptr (.hp a) 0) (hσ:σ=⟨hp,s⟩) (hro0:cx.ro=none) (k2:callW Try.prog how 38 [.ptr (.hp a) 0] ⟨hp,s⟩ none=some (.tup [],⟨hp1,s⟩)):
  Pc Try.prog how cx [2000007,2000013,2000021] 150 [146,147] (cr [.r, .r, .r, .r, .l, .r, .i, .r, .r, .r, .r, .r, .r, .r, .r, .r, .l, .l]) env σ (.normal) (AS.mk hp1 s) (fun _=>True):=by
 refine pc_of fun res hr=>?_
 simp -implicitDefEqProofs [AS.get_push_at,AS.get_push_old,AS.push_len,AS.set_st_len,AS.next_st',AS.set_push_at,AS.get_set_self,AS.get_set_other,cr,Try.f15,hlen,hcx,f0,hσ,hro0,k2] at hr
 subst hr
 refine ⟨_,rfl,by simp[hlen],by simp[Env.get_set,hlen,f0,hσ,hro0,k2],fun i hi=>?_⟩
 simp only[List.mem_cons,List.not_mem_nil,or_false,not_or] at hi
 simp only[putE,get_set2,hi,false_and,if_false]
theorem r26 (cx:Cx) (env:Env) (σ:AS) (b:Nat) (hp1:List AObj) (hp s:List AObj) (hlen:env.length=150) (hcx:cx.esc= []) (f1:Env.get env 1= .ptr (.hp b) 0) (hσ:σ=⟨hp,s⟩) (hro0:cx.ro=none) (k2:callW Try.prog how 39 [.ptr (.hp b) 0] ⟨hp,s⟩ none=some (.tup [],⟨hp1,s⟩)):
  Pc Try.prog how cx [2000007,2000013,2000021] 150 [148,149] (cr [.r, .r, .r, .r, .l, .r, .i, .r, .r, .r, .r, .r, .r, .r, .r, .r, .l, .r]) env σ (.normal) (AS.mk hp1 s) (fun _=>True):=by
 refine pc_of fun res hr=>?_
 simp -implicitDefEqProofs [AS.get_push_at,AS.get_push_old,AS.push_len,AS.set_st_len,AS.next_st',AS.set_push_at,AS.get_set_self,AS.get_set_other,cr,Try.f15,hlen,hcx,f1,hσ,hro0,k2] at hr
 subst hr
 refine ⟨_,rfl,by simp[hlen],by simp[Env.get_set,hlen,f1,hσ,hro0,k2],fun i hi=>?_⟩
 simp only[List.mem_cons,List.not_mem_nil,or_false,not_or] at hi
 simp only[putE,get_set2,hi,false_and,if_false]
theorem r27 (cx:Cx) (env:Env) (σ:AS) (hlen:env.length=150) (hcx:cx.esc= []):
  Pc Try.prog how cx [2000007,2000013,2000021] 150 [6] (cr [.r, .r, .r, .r, .r, .l]) env σ (.normal) (σ) (fun env'=>Env.get env' 6= .bool true):=by
 refine pc_of fun res hr=>?_
 simp -implicitDefEqProofs [AS.get_push_at,AS.get_push_old,AS.push_len,AS.set_st_len,AS.next_st',AS.set_push_at,AS.get_set_self,AS.get_set_other,cr,Try.f15,hlen,hcx] at hr
 subst hr
 refine ⟨_,rfl,by simp[hlen],by simp[Env.get_set,hlen],fun i hi=>?_⟩
 simp only[List.mem_cons,List.not_mem_nil,or_false,not_or] at hi
 simp only[putE,get_set2,hi,false_and,if_false]
end
noncomputable def bodyC:Code:=(.seq (cr [.l]) (.seq (cr [.r, .l]) (.seq (cr [.r, .r, .l]) (.seq (.seq (cr [.r, .r, .r, .l, .l]) (.cond (.tmp 32) (cr [.r, .r, .r, .l, .r, .l]) .skip)) (.seq (.seq (cr [.r, .r, .r, .r, .l, .l]) (.block 0 (.seq (cr [.r, .r, .r, .r, .l, .r, .i, .l]) (.cond (.tmp 39) (.seq (cr [.r, .r, .r, .r, .l, .r, .i, .r, .l, .l]) (.seq (cr [.r, .r, .r, .r, .l, .r, .i, .r, .l, .r, .l]) (.seq (cr [.r, .r, .r, .r, .l, .r, .i, .r, .l, .r, .r, .l]) .ret))) (.seq (cr [.r, .r, .r, .r, .l, .r, .i, .r, .r, .l]) (.cond (.tmp 69) (.seq (cr [.r, .r, .r, .r, .l, .r, .i, .r, .r, .r, .l, .l]) .ret) (.seq (cr [.r, .r, .r, .r, .l, .r, .i, .r, .r, .r, .r, .l]) (.cond (.tmp 87) (.seq (cr [.r, .r, .r, .r, .l, .r, .i, .r, .r, .r, .r, .r, .l, .l]) (.seq (cr [.r, .r, .r, .r, .l, .r, .i, .r, .r, .r, .r, .r, .l, .r, .l]) (.seq (cr [.r, .r, .r, .r, .l, .r, .i, .r, .r, .r, .r, .r, .l, .r, .r, .l]) .ret))) (.seq (cr [.r, .r, .r, .r, .l, .r, .i, .r, .r, .r, .r, .r, .r, .l]) (.cond (.tmp 111) (.seq (cr [.r, .r, .r, .r, .l, .r, .i, .r, .r, .r, .r, .r, .r, .r, .l, .l]) (.seq (cr [.r, .r, .r, .r, .l, .r, .i, .r, .r, .r, .r, .r, .r, .r, .l, .r, .l]) (.seq (cr [.r, .r, .r, .r, .l, .r, .i, .r, .r, .r, .r, .r, .r, .r, .l, .r, .r, .l]) .ret))) (.seq (cr [.r, .r, .r, .r, .l, .r, .i, .r, .r, .r, .r, .r, .r, .r, .r, .l]) (.cond (.tmp 144) (.seq (cr [.r, .r, .r, .r, .l, .r, .i, .r, .r, .r, .r, .r, .r, .r, .r, .r, .l, .l]) (cr [.r, .r, .r, .r, .l, .r, .i, .r, .r, .r, .r, .r, .r, .r, .r, .r, .l, .r])) .skip)))))))))))) (.seq (cr [.r, .r, .r, .r, .r, .l]) .ret))))))
theorem body:Try.f15.body=some bodyC:=by kernel_rfl
theorem ok (hp s:List AObj) (a b:Nat) (me n:Int) (kd rd rn nn node:Int) (X:AV) (val:ByteArray) (l:List Vt) (p:Lv) (r:Rv) (j:Nat) (hT:Two hp a b me n p r) (hR:Rel n p r) (hn:1≤n∧n≤5) (hme:0≤me∧me<5) (hS: ∀σ,Rd Try.prog σ 22 84 X (l.map encVt)) (hX:Plain X) (hll:l.length≤9223372036854775807) (hrd:0≤rd∧rd≤18446744073709551615) (hsm:Small j r) (hj:j≤800):
  ∃hp' p' r',callW Try.prog how 15 [.ptr (.hp a) 0, .ptr (.hp b) 0, .agg [.int .i64 kd, .int .u64 rd, .int .i64 rn, .int .i64 nn, .int .i64 node,X, .str val]] ⟨hp,s⟩ none=some (.bool true,⟨hp',s⟩)∧Two hp' a b me n p' r'∧Rel n p' r'∧Small (j+1) r'∧hp.length≤hp'.length:=by
 let cx:Cx:={h:=s.length,ro:=none,esc:= []}
 have hcx:cx.esc= []:=rfl
 have hro: ∀k,cx.ro=some k→k≤cx.h:=fun k hk=>by cases hk
 obtain ⟨env,henv⟩: ∃e,e=frameA Try.f15 [.ptr (.hp a) 0, .ptr (.hp b) 0, .agg [.int .i64 kd, .int .u64 rd, .int .i64 rn, .int .i64 nn, .int .i64 node,X, .str val]]:=⟨_,rfl⟩
 have hlen:env.length=150:=by rw[henv]; rfl
 have f0:Env.get env 0= .ptr (.hp a) 0:=by rw[henv]; rfl
 have f1:Env.get env 1= .ptr (.hp b) 0:=by rw[henv]; rfl
 have f2:Env.get env 2= .agg [.int .i64 kd, .int .u64 rd, .int .i64 rn, .int .i64 nn, .int .i64 node,X, .str val]:=by rw[henv]; rfl
 have ho:Outside s.length (AS.mk hp s) (AS.mk hp s):=Outside.refl (Nat.le_refl _)
 obtain ⟨F,G,hL,hD,hd⟩:=hT
 obtain ⟨XP,XA,XO,G1,G2,G3,hDr,hGe⟩:=hD
 have hD:StR hp b me n r G:=⟨XP,XA,XO,G1,G2,G3,hDr,hGe⟩
 obtain ⟨env1,x1a,x1b,x1c,x1d⟩:=rA cx env (AS.mk hp s) kd rd rn nn node X val hp s hlen hcx f2 hX rfl rfl
 have f0:=(x1d 0 (by decide)).trans f0
 have f1:=(x1d 1 (by decide)).trans f1
 have f2:=(x1d 2 (by decide)).trans f2
 have f5:=x1c.1
 have f6:=x1c.2
 have kv:=LVotes.ok hp (s++ [AObj.cells [.int .i64 kd, .int .u64 rd, .int .i64 rn, .int .i64 nn, .int .i64 node,X, .str val]]) none X l (fun k hk=>by cases hk) hS hll
 have hvl:(l.take 12).length≤1000:=by rw[List.length_take]; omega
 generalize hvs:l.take 12=vs at*
 obtain ⟨env2,x2a,x2b,x2c,x2d⟩:=rB cx env1 (AS.mk hp (s++ [AObj.cells [.int .i64 kd, .int .u64 rd, .int .i64 rn, .int .i64 nn, .int .i64 node,X, .str val]])) kd rd rn nn node X val s.length ((slV 4 (vs.map encVt))) hp ((s++ [AObj.cells [.int .i64 kd, .int .u64 rd, .int .i64 rn, .int .i64 nn, .int .i64 node,X, .str val]])) x1b hcx f5 hX rfl (by simp[AS.get]) kv
 have f0:=(x2d 0 (by decide)).trans f0
 have f1:=(x2d 1 (by decide)).trans f1
 have f2:=(x2d 2 (by decide)).trans f2
 have f5:=(x2d 5 (by decide)).trans f5
 have f6:=(x2d 6 (by decide)).trans f6
 have f7:=x2c.1
 have f8:=x2c.2
 obtain ⟨env3,x3a,x3b,x3c,x3d⟩:=rC cx env2 (AS.mk hp (s++ [AObj.cells [.int .i64 kd, .int .u64 rd, .int .i64 rn, .int .i64 nn, .int .i64 node,X, .str val]])) kd rd rn nn node X val s.length hp ((s++ [AObj.cells [.int .i64 kd, .int .u64 rd, .int .i64 rn, .int .i64 nn, .int .i64 node,X, .str val]])) x2b hcx f5 hX rfl rfl (by simp[cx]) (by simp[AS.get])
 have f0:=(x3d 0 (by decide)).trans f0
 have f1:=(x3d 1 (by decide)).trans f1
 have f2:=(x3d 2 (by decide)).trans f2
 have f5:=(x3d 5 (by decide)).trans f5
 have f6:=(x3d 6 (by decide)).trans f6
 have f7:=(x3d 7 (by decide)).trans f7
 have f8:=(x3d 8 (by decide)).trans f8
 have f9:=x3c
 obtain ⟨env4,x4a,x4b,x4c,x4d⟩:=rD cx env3 (AS.mk hp ((s++ [AObj.cells [.int .i64 kd, .int .u64 rd, .int .i64 rn, .int .i64 nn, .int .i64 node,X, .str val]])++ [AObj.cells [.int .u64 rd, .int .i64 rn]])) kd rd rn nn node X val s.length x3b hcx f5 hX (by simp[AS.get])
 have f0:=(x4d 0 (by decide)).trans f0
 have f1:=(x4d 1 (by decide)).trans f1
 have f2:=(x4d 2 (by decide)).trans f2
 have f5:=(x4d 5 (by decide)).trans f5
 have f6:=(x4d 6 (by decide)).trans f6
 have f7:=(x4d 7 (by decide)).trans f7
 have f8:=(x4d 8 (by decide)).trans f8
 have f9:=(x4d 9 (by decide)).trans f9
 have f32:=x4c
 have ev0:=ev_tmp f32
 obtain ⟨bp,hbp⟩: ∃bp:Int×Int,bp=(if kd<7 then (r.br,r.bn) else (rd,rn)):=⟨_,rfl⟩
 have hrun4: ∃e4,execW Try.prog cx [2000007,2000013,2000021] (callW Try.prog how) (.cond (.tmp 32) (cr [.r, .r, .r, .l, .r, .l]) .skip) (env4,⟨hp,((s++ [AObj.cells [.int .i64 kd, .int .u64 rd, .int .i64 rn, .int .i64 nn, .int .i64 node,X, .str val]])++ [AObj.cells [.int .u64 rd, .int .i64 rn]])⟩)=some (.normal,(e4,⟨hp,(s++ [AObj.cells [.int .i64 kd, .int .u64 rd, .int .i64 rn, .int .i64 nn, .int .i64 node,X, .str val]])++ [.cells [.int .u64 bp.1, .int .i64 bp.2]]⟩))∧e4.length=150∧Env.get e4 0= .ptr (.hp a) 0∧Env.get e4 1= .ptr (.hp b) 0∧Env.get e4 5= .ptr (.st s.length) 0∧Env.get e4 7=(slV 4 (vs.map encVt))∧Env.get e4 8=(slV 4 (vs.map encVt))∧Env.get e4 9= .ptr (.st (s.length+1)) 0:=by
  have f9:Env.get env4 9= .ptr (.st (s.length+1)) 0:=by rw[f9]; simp
  by_cases qk:kd<7
  case pos=>
   rw[decide_eq_true qk] at ev0
   obtain ⟨env5,x5a,x5b,x5c,x5d⟩:=rE cx env4 (AS.mk hp ((s++ [AObj.cells [.int .i64 kd, .int .u64 rd, .int .i64 rn, .int .i64 nn, .int .i64 node,X, .str val]])++ [AObj.cells [.int .u64 rd, .int .i64 rn]])) b me n r.st r.br r.bn r.fr r.nx XP XA XO rd rn ((s.length+1)) hp (((s++ [AObj.cells [.int .i64 kd, .int .u64 rd, .int .i64 rn, .int .i64 nn, .int .i64 node,X, .str val]])++ [AObj.cells [.int .u64 rd, .int .i64 rn]])) x4b hcx f1 f9 hDr.hX.one hDr.hA.one hDr.hO.one rfl rfl (by show s.length≤_; omega) hDr.oB (by simp[AS.get])
   have f0:=(x5d 0 (by decide)).trans f0
   have f1:=(x5d 1 (by decide)).trans f1
   have f2:=(x5d 2 (by decide)).trans f2
   have f5:=(x5d 5 (by decide)).trans f5
   have f6:=(x5d 6 (by decide)).trans f6
   have f7:=(x5d 7 (by decide)).trans f7
   have f8:=(x5d 8 (by decide)).trans f8
   have f9:=(x5d 9 (by decide)).trans f9
   have f32:=(x5d 32 (by decide)).trans f32
   have hse:((s++ [AObj.cells [.int .i64 kd, .int .u64 rd, .int .i64 rn, .int .i64 nn, .int .i64 node,X, .str val]])++ [AObj.cells [.int .u64 rd, .int .i64 rn]]).set (s.length+1) (.cells [.int .u64 r.br, .int .i64 r.bn])=(s++ [AObj.cells [.int .i64 kd, .int .u64 rd, .int .i64 rn, .int .i64 nn, .int .i64 node,X, .str val]])++ [.cells [.int .u64 bp.1, .int .i64 bp.2]]:=by rw[hbp,if_pos qk]; simp
   rw[hse] at x5a
   exact ⟨env5,execW_cond_t ev0 x5a,x5b,f0,f1,f5,f7,f8,f9⟩
  rw[decide_eq_false qk] at ev0
  have hse:((s++ [AObj.cells [.int .i64 kd, .int .u64 rd, .int .i64 rn, .int .i64 nn, .int .i64 node,X, .str val]])++ [AObj.cells [.int .u64 rd, .int .i64 rn]])=(s++ [AObj.cells [.int .i64 kd, .int .u64 rd, .int .i64 rn, .int .i64 nn, .int .i64 node,X, .str val]])++ [.cells [.int .u64 bp.1, .int .i64 bp.2]]:=by rw[hbp,if_neg qk]
  refine ⟨env4,?_,x4b,f0,f1,f5,f7,f8,f9⟩
  rw[←hse]
  exact execW_cond_f ev0 (by rfl)
 obtain ⟨e4,x9a,x9b,f0,f1,f5,f7,f8,f9⟩:=hrun4
 obtain ⟨s3,hs3⟩: ∃x,x=((s++ [AObj.cells [.int .i64 kd, .int .u64 rd, .int .i64 rn, .int .i64 nn, .int .i64 node,X, .str val]])++ [AObj.cells [.int .u64 bp.1, .int .i64 bp.2]]):=⟨_,rfl⟩
 rw[←hs3] at x9a
 have hl3:s3.length=s.length+2:=by rw[hs3]; simp
 have htk:s3.take s.length=s:=by rw[hs3,List.append_assoc]; simp
 have g5: ∀H t,(AS.mk H (s3++t)).get (.st s.length)=some (.cells [.int .i64 kd, .int .u64 rd, .int .i64 rn, .int .i64 nn, .int .i64 node,X, .str val]):=fun H t=>get_app (by rw[hs3]; simp)
 have g50: ∀H,(AS.mk H s3).get (.st s.length)=some (.cells [.int .i64 kd, .int .u64 rd, .int .i64 rn, .int .i64 nn, .int .i64 node,X, .str val]):=fun H=>by rw[hs3]; simp[AS.get]
 have g9: ∀H t,(AS.mk H (s3++t)).get (.st (s.length+1))=some (.cells [.int .u64 bp.1, .int .i64 bp.2]):=fun H t=>get_app (by rw[hs3]; simp)
 have g90: ∀H,(AS.mk H s3).get (.st (s.length+1))=some (.cells [.int .u64 bp.1, .int .i64 bp.2]):=fun H=>by rw[hs3]; simp[AS.get]
 have ko: ∀x y H s,callW Try.prog how 34 [.agg [.int .u64 x, .int .i64 y]] ⟨H,s⟩ none=some (.agg [.int .u64 x, .int .i64 y],⟨H,s⟩):=fun x y H s=>ours_c H s none x y (fun k hk=>by cases hk)
 have hbV:AV.beq (slV 4 (vs.map encVt)) (slV 4 (vs.map encVt))=true:=by
  have hcs: ∀v:Vt,AV.beq (encVt v) (encVt v)=true:=fun v=>by simp[encVt,AV.beq,AVs.beq,bytes_beq]
  have hls: ∀l:List Vt,AVs.beq (l.map encVt) (l.map encVt)=true:=fun l=>by
   induction l with
   | nil=>rfl
   | cons v l ih=>rw[List.map_cons,beqs_cons,hcs,ih]; rfl
  cases vs with
  | nil=>rfl
  | cons v l=>simpa [slV,beq_sl] using hls (v :: l)
 obtain ⟨env10,x10a,x10b,x10c,x10d⟩:=rF cx e4 (AS.mk hp s3) kd rd rn nn node X val s.length x9b hcx f5 hX (g50 _)
 have f0:=(x10d 0 (by decide)).trans f0
 have f1:=(x10d 1 (by decide)).trans f1
 have f5:=(x10d 5 (by decide)).trans f5
 have f7:=(x10d 7 (by decide)).trans f7
 have f8:=(x10d 8 (by decide)).trans f8
 have f9:=(x10d 9 (by decide)).trans f9
 have f38:=x10c
 obtain ⟨env11,x11a,x11b,x11c,x11d⟩:=r6 cx env10 (AS.mk hp s3) kd x10b hcx f38
 have f0:=(x11d 0 (by decide)).trans f0
 have f1:=(x11d 1 (by decide)).trans f1
 have f5:=(x11d 5 (by decide)).trans f5
 have f7:=(x11d 7 (by decide)).trans f7
 have f8:=(x11d 8 (by decide)).trans f8
 have f9:=(x11d 9 (by decide)).trans f9
 have f38:=(x11d 38 (by decide)).trans f38
 have f39:=x11c
 have ev1:=ev_tmp f39
 by_cases q0:kd=0
 case pos=>
  rw[decide_eq_true q0] at ev1
  have hB:=LBeg.ok hp s3 a me n rd rn nn p F hL hrd hme
  have hc0:(Cx.mk cx.h none [])=cx:=rfl
  rcases hB with ⟨qb,kb⟩ | ⟨qb,qc,kb⟩ | ⟨qb,qc,hp1,F1,kb,hL1,hS1⟩
  ·skip
   obtain ⟨env12,x12a,x12b,x12c,x12d⟩:=m7 cx.h none hp s3 env11 kd rd rn nn node X val a s.length 0 0 1 hp x11b f0 f5 hX rfl g5 g50 (ko _ _) kb (Nat.le_refl _)
   have f0:=(x12d 0 (by decide)).trans f0
   have f1:=(x12d 1 (by decide)).trans f1
   have f5:=(x12d 5 (by decide)).trans f5
   have f7:=(x12d 7 (by decide)).trans f7
   have f8:=(x12d 8 (by decide)).trans f8
   have f9:=(x12d 9 (by decide)).trans f9
   have f38:=(x12d 38 (by decide)).trans f38
   have f39:=(x12d 39 (by decide)).trans f39
   have f10:=x12c.1
   have f11:=x12c.2
   have hRb:=rbegin_ok hp (s3++ [AObj.cells [.int .u64 0, .int .i64 0]]) b me n rd rn nn r G hD hrd
   rcases hRb with ⟨qb2,kr⟩ | ⟨qb2,qc2,kr⟩ | ⟨qb2,qc2,hp1,F1,kr,hL1,hS1⟩
   ·skip
    obtain ⟨env13,x13a,x13b,x13c,x13d⟩:=r8 cx env12 (AS.mk hp (s3++ [AObj.cells [.int .u64 0, .int .i64 0]])) kd rd rn nn node X val b s.length 0 0 1 hp hp ((s3++ [AObj.cells [.int .u64 0, .int .i64 0]])) x12b hcx f1 f5 hX rfl rfl (by show s.length≤(s3++_).length; simp; omega) (g5 _ _) kr
    have f0:=(x13d 0 (by decide)).trans f0
    have f1:=(x13d 1 (by decide)).trans f1
    have f5:=(x13d 5 (by decide)).trans f5
    have f7:=(x13d 7 (by decide)).trans f7
    have f8:=(x13d 8 (by decide)).trans f8
    have f9:=(x13d 9 (by decide)).trans f9
    have f10:=(x13d 10 (by decide)).trans f10
    have f11:=(x13d 11 (by decide)).trans f11
    have f38:=(x13d 38 (by decide)).trans f38
    have f39:=(x13d 39 (by decide)).trans f39
    have f12:=x13c.1
    have f13:=x13c.2
    have k4:=plain_c hp ((s3++ [AObj.cells [.int .u64 0, .int .i64 0]])++ [AObj.cells [.int .u64 0, .int .i64 0]]) (some ((s3++ [AObj.cells [.int .u64 0, .int .i64 0]])++ [AObj.cells [.int .u64 0, .int .i64 0]]).length) 0 0 (fun k hk=>by cases hk; exact Nat.le_refl _)
    obtain ⟨env14,x14a,x14b,x14c,x14d⟩:=r9 cx env13 (AS.mk hp ((s3++ [AObj.cells [.int .u64 0, .int .i64 0]])++ [AObj.cells [.int .u64 0, .int .i64 0]])) 0 0 1 s3.length ((s3++ [AObj.cells [.int .u64 0, .int .i64 0]]).length) hp (((s3++ [AObj.cells [.int .u64 0, .int .i64 0]])++ [AObj.cells [.int .u64 0, .int .i64 0]])) x13b hcx f10 f11 f12 f13 rfl (by simp[AS.get]) (by simp[AS.get]) k4
    have f0:=(x14d 0 (by decide)).trans f0
    have f1:=(x14d 1 (by decide)).trans f1
    have f5:=(x14d 5 (by decide)).trans f5
    have f7:=(x14d 7 (by decide)).trans f7
    have f8:=(x14d 8 (by decide)).trans f8
    have f9:=(x14d 9 (by decide)).trans f9
    have f10:=(x14d 10 (by decide)).trans f10
    have f11:=(x14d 11 (by decide)).trans f11
    have f12:=(x14d 12 (by decide)).trans f12
    have f13:=(x14d 13 (by decide)).trans f13
    have f38:=(x14d 38 (by decide)).trans f38
    have f39:=(x14d 39 (by decide)).trans f39
    have f6:=x14c
    have htk2:((s3++ [AObj.cells [.int .u64 0, .int .i64 0]])++ [AObj.cells [.int .u64 0, .int .i64 0]]).take s.length=s:=by rw[List.append_assoc,List.take_append_of_le_length (by omega)]; exact htk
    exact ⟨hp,p,r,call_of (fl:={tails:= [2000007,2000013,2000021]}) (fn:=Try.f15) (c:=bodyC) (env:=env) (e:=(.ret,(env14,AS.mk hp ((s3++ [AObj.cells [.int .u64 0, .int .i64 0]])++ [AObj.cells [.int .u64 0, .int .i64 0]])))) rfl Try.func15 body henv (by unfold bodyC; exact (execW_seq_of x1a (execW_seq_of x2a (execW_seq_of x3a (execW_seq_of (execW_seq_of x4a x9a) (execW_seq_ret (execW_seq_of x10a (block_exit (execW_seq_of x11a (execW_cond_t ev1 (execW_seq_of x12a (execW_seq_of x13a (execW_seq_of x14a (by rfl)))))) (by simp))))))))) ((fin_tmp (k:=6) (w:= .bool true) (.inl rfl) rfl rfl f6 (by simp[AV.back]) (by simp[AV.inb])).trans (congrArg (fun z=>some (_,AS.mk _ z)) htk2)),⟨F,G,hL,hD,hd⟩,hR,(hsm.mono (Nat.le_succ _)),Nat.le_refl _⟩
   ·skip
    exfalso; omega
   ·skip
    exfalso; omega
  ·skip
   obtain ⟨env12,x12a,x12b,x12c,x12d⟩:=m7 cx.h none hp s3 env11 kd rd rn nn node X val a s.length 0 0 9 hp x11b f0 f5 hX rfl g5 g50 (ko _ _) kb (Nat.le_refl _)
   have f0:=(x12d 0 (by decide)).trans f0
   have f1:=(x12d 1 (by decide)).trans f1
   have f5:=(x12d 5 (by decide)).trans f5
   have f7:=(x12d 7 (by decide)).trans f7
   have f8:=(x12d 8 (by decide)).trans f8
   have f9:=(x12d 9 (by decide)).trans f9
   have f38:=(x12d 38 (by decide)).trans f38
   have f39:=(x12d 39 (by decide)).trans f39
   have f10:=x12c.1
   have f11:=x12c.2
   have hRb:=rbegin_ok hp (s3++ [AObj.cells [.int .u64 0, .int .i64 0]]) b me n rd rn nn r G hD hrd
   rcases hRb with ⟨qb2,kr⟩ | ⟨qb2,qc2,kr⟩ | ⟨qb2,qc2,hp1,F1,kr,hL1,hS1⟩
   ·skip
    exfalso; omega
   ·skip
    obtain ⟨env13,x13a,x13b,x13c,x13d⟩:=r8 cx env12 (AS.mk hp (s3++ [AObj.cells [.int .u64 0, .int .i64 0]])) kd rd rn nn node X val b s.length 0 0 9 hp hp ((s3++ [AObj.cells [.int .u64 0, .int .i64 0]])) x12b hcx f1 f5 hX rfl rfl (by show s.length≤(s3++_).length; simp; omega) (g5 _ _) kr
    have f0:=(x13d 0 (by decide)).trans f0
    have f1:=(x13d 1 (by decide)).trans f1
    have f5:=(x13d 5 (by decide)).trans f5
    have f7:=(x13d 7 (by decide)).trans f7
    have f8:=(x13d 8 (by decide)).trans f8
    have f9:=(x13d 9 (by decide)).trans f9
    have f10:=(x13d 10 (by decide)).trans f10
    have f11:=(x13d 11 (by decide)).trans f11
    have f38:=(x13d 38 (by decide)).trans f38
    have f39:=(x13d 39 (by decide)).trans f39
    have f12:=x13c.1
    have f13:=x13c.2
    have k4:=plain_c hp ((s3++ [AObj.cells [.int .u64 0, .int .i64 0]])++ [AObj.cells [.int .u64 0, .int .i64 0]]) (some ((s3++ [AObj.cells [.int .u64 0, .int .i64 0]])++ [AObj.cells [.int .u64 0, .int .i64 0]]).length) 0 0 (fun k hk=>by cases hk; exact Nat.le_refl _)
    obtain ⟨env14,x14a,x14b,x14c,x14d⟩:=r9 cx env13 (AS.mk hp ((s3++ [AObj.cells [.int .u64 0, .int .i64 0]])++ [AObj.cells [.int .u64 0, .int .i64 0]])) 0 0 9 s3.length ((s3++ [AObj.cells [.int .u64 0, .int .i64 0]]).length) hp (((s3++ [AObj.cells [.int .u64 0, .int .i64 0]])++ [AObj.cells [.int .u64 0, .int .i64 0]])) x13b hcx f10 f11 f12 f13 rfl (by simp[AS.get]) (by simp[AS.get]) k4
    have f0:=(x14d 0 (by decide)).trans f0
    have f1:=(x14d 1 (by decide)).trans f1
    have f5:=(x14d 5 (by decide)).trans f5
    have f7:=(x14d 7 (by decide)).trans f7
    have f8:=(x14d 8 (by decide)).trans f8
    have f9:=(x14d 9 (by decide)).trans f9
    have f10:=(x14d 10 (by decide)).trans f10
    have f11:=(x14d 11 (by decide)).trans f11
    have f12:=(x14d 12 (by decide)).trans f12
    have f13:=(x14d 13 (by decide)).trans f13
    have f38:=(x14d 38 (by decide)).trans f38
    have f39:=(x14d 39 (by decide)).trans f39
    have f6:=x14c
    have htk2:((s3++ [AObj.cells [.int .u64 0, .int .i64 0]])++ [AObj.cells [.int .u64 0, .int .i64 0]]).take s.length=s:=by rw[List.append_assoc,List.take_append_of_le_length (by omega)]; exact htk
    exact ⟨hp,p,r,call_of (fl:={tails:= [2000007,2000013,2000021]}) (fn:=Try.f15) (c:=bodyC) (env:=env) (e:=(.ret,(env14,AS.mk hp ((s3++ [AObj.cells [.int .u64 0, .int .i64 0]])++ [AObj.cells [.int .u64 0, .int .i64 0]])))) rfl Try.func15 body henv (by unfold bodyC; exact (execW_seq_of x1a (execW_seq_of x2a (execW_seq_of x3a (execW_seq_of (execW_seq_of x4a x9a) (execW_seq_ret (execW_seq_of x10a (block_exit (execW_seq_of x11a (execW_cond_t ev1 (execW_seq_of x12a (execW_seq_of x13a (execW_seq_of x14a (by rfl)))))) (by simp))))))))) ((fin_tmp (k:=6) (w:= .bool true) (.inl rfl) rfl rfl f6 (by simp[AV.back]) (by simp[AV.inb])).trans (congrArg (fun z=>some (_,AS.mk _ z)) htk2)),⟨F,G,hL,hD,hd⟩,hR,(hsm.mono (Nat.le_succ _)),Nat.le_refl _⟩
   ·skip
    exfalso; omega
  ·skip
   obtain ⟨hD1,hd1⟩:=two_l hL1 hS1 hD hd
   obtain ⟨env12,x12a,x12b,x12c,x12d⟩:=m7 cx.h none hp s3 env11 kd rd rn nn node X val a s.length ((rd+1)) me 0 hp1 x11b f0 f5 hX rfl g5 g50 (ko _ _) kb hS1.1.1
   have f0:=(x12d 0 (by decide)).trans f0
   have f1:=(x12d 1 (by decide)).trans f1
   have f5:=(x12d 5 (by decide)).trans f5
   have f7:=(x12d 7 (by decide)).trans f7
   have f8:=(x12d 8 (by decide)).trans f8
   have f9:=(x12d 9 (by decide)).trans f9
   have f38:=(x12d 38 (by decide)).trans f38
   have f39:=(x12d 39 (by decide)).trans f39
   have f10:=x12c.1
   have f11:=x12c.2
   have hRb:=rbegin_ok hp1 (s3++ [AObj.cells [.int .u64 (rd+1), .int .i64 me]]) b me n rd rn nn r G hD1 hrd
   rcases hRb with ⟨qb2,kr⟩ | ⟨qb2,qc2,kr⟩ | ⟨qb2,qc2,hp2,F2,kr,hL2,hS2⟩
   ·skip
    exfalso; omega
   ·skip
    exfalso; omega
   ·skip
    obtain ⟨env13,x13a,x13b,x13c,x13d⟩:=r8 cx env12 (AS.mk hp1 (s3++ [AObj.cells [.int .u64 (rd+1), .int .i64 me]])) kd rd rn nn node X val b s.length ((rd+1)) me 0 hp2 hp1 ((s3++ [AObj.cells [.int .u64 (rd+1), .int .i64 me]])) x12b hcx f1 f5 hX rfl rfl (by show s.length≤(s3++_).length; simp; omega) (g5 _ _) kr
    have f0:=(x13d 0 (by decide)).trans f0
    have f1:=(x13d 1 (by decide)).trans f1
    have f5:=(x13d 5 (by decide)).trans f5
    have f7:=(x13d 7 (by decide)).trans f7
    have f8:=(x13d 8 (by decide)).trans f8
    have f9:=(x13d 9 (by decide)).trans f9
    have f10:=(x13d 10 (by decide)).trans f10
    have f11:=(x13d 11 (by decide)).trans f11
    have f38:=(x13d 38 (by decide)).trans f38
    have f39:=(x13d 39 (by decide)).trans f39
    have f12:=x13c.1
    have f13:=x13c.2
    have k4:=plain_c hp2 ((s3++ [AObj.cells [.int .u64 (rd+1), .int .i64 me]])++ [AObj.cells [.int .u64 (rd+1), .int .i64 me]]) (some ((s3++ [AObj.cells [.int .u64 (rd+1), .int .i64 me]])++ [AObj.cells [.int .u64 (rd+1), .int .i64 me]]).length) (rd+1) me (fun k hk=>by cases hk; exact Nat.le_refl _)
    obtain ⟨env14,x14a,x14b,x14c,x14d⟩:=r9 cx env13 (AS.mk hp2 ((s3++ [AObj.cells [.int .u64 (rd+1), .int .i64 me]])++ [AObj.cells [.int .u64 (rd+1), .int .i64 me]])) ((rd+1)) me 0 s3.length ((s3++ [AObj.cells [.int .u64 (rd+1), .int .i64 me]]).length) hp2 (((s3++ [AObj.cells [.int .u64 (rd+1), .int .i64 me]])++ [AObj.cells [.int .u64 (rd+1), .int .i64 me]])) x13b hcx f10 f11 f12 f13 rfl (by simp[AS.get]) (by simp[AS.get]) k4
    have f0:=(x14d 0 (by decide)).trans f0
    have f1:=(x14d 1 (by decide)).trans f1
    have f5:=(x14d 5 (by decide)).trans f5
    have f7:=(x14d 7 (by decide)).trans f7
    have f8:=(x14d 8 (by decide)).trans f8
    have f9:=(x14d 9 (by decide)).trans f9
    have f10:=(x14d 10 (by decide)).trans f10
    have f11:=(x14d 11 (by decide)).trans f11
    have f12:=(x14d 12 (by decide)).trans f12
    have f13:=(x14d 13 (by decide)).trans f13
    have f38:=(x14d 38 (by decide)).trans f38
    have f39:=(x14d 39 (by decide)).trans f39
    have f6:=x14c
    have htk2:((s3++ [AObj.cells [.int .u64 (rd+1), .int .i64 me]])++ [AObj.cells [.int .u64 (rd+1), .int .i64 me]]).take s.length=s:=by rw[List.append_assoc,List.take_append_of_le_length (by omega)]; exact htk
    exact ⟨hp2,(begL me rd nn),(begR me rd nn),call_of (fl:={tails:= [2000007,2000013,2000021]}) (fn:=Try.f15) (c:=bodyC) (env:=env) (e:=(.ret,(env14,AS.mk hp2 ((s3++ [AObj.cells [.int .u64 (rd+1), .int .i64 me]])++ [AObj.cells [.int .u64 (rd+1), .int .i64 me]])))) rfl Try.func15 body henv (by unfold bodyC; exact (execW_seq_of x1a (execW_seq_of x2a (execW_seq_of x3a (execW_seq_of (execW_seq_of x4a x9a) (execW_seq_ret (execW_seq_of x10a (block_exit (execW_seq_of x11a (execW_cond_t ev1 (execW_seq_of x12a (execW_seq_of x13a (execW_seq_of x14a (by rfl)))))) (by simp))))))))) ((fin_tmp (k:=6) (w:= .bool true) (.inl rfl) rfl rfl f6 (by simp[AV.back]) (by simp[AV.inb])).trans (congrArg (fun z=>some (_,AS.mk _ z)) htk2)),two_r hL2 hS2 hL1 hd1,rel_beg (by omega) qb,⟨Nat.zero_le _,Nat.zero_le _,fun p hp=>by cases hp⟩,(Nat.le_trans hS1.1.1 hS2.1.1)⟩
 rw[decide_eq_false q0] at ev1
 obtain ⟨env12,x12a,x12b,x12c,x12d⟩:=r10 cx env11 (AS.mk hp s3) kd x11b hcx f38
 have f0:=(x12d 0 (by decide)).trans f0
 have f1:=(x12d 1 (by decide)).trans f1
 have f5:=(x12d 5 (by decide)).trans f5
 have f7:=(x12d 7 (by decide)).trans f7
 have f8:=(x12d 8 (by decide)).trans f8
 have f9:=(x12d 9 (by decide)).trans f9
 have f38:=(x12d 38 (by decide)).trans f38
 have f39:=(x12d 39 (by decide)).trans f39
 have f69:=x12c
 have ev2:=ev_tmp f69
 cases q1:(decide (kd=1) || (decide (kd=2) || decide (kd=7))) with
 | true=>
  have ev2:=ev2.trans (congrArg (fun b=>some (AV.bool b)) q1)
  obtain ⟨hp1,F1,k2,hL1,hS1⟩:=LProm.ok hp s3 a me n node bp.1 bp.2 vs p F hL hR.prok hR.fr0 (fun h=>⟨(hR.ask h).2.2.2.1,(hR.ask h).2.2.1⟩) hvl
  obtain ⟨hD1,hd1⟩:=two_l hL1 hS1 hD hd
  have hop:r.st=1→r.op= []:=fun h=>by rw[←hR.op,(hR.ask (hR.st.trans h)).2.2.2.1]; rfl
  obtain ⟨hp2,G2',k3,hL2,hS2⟩:=RProm.ok hp1 s3 b me n node bp.1 bp.2 vs r G hD1 (by rw[←hR.fr]; exact hR.fr0) hop hsm.2.2 (by have:=hsm.1; omega) hvl
  obtain ⟨hr1,hr2⟩:=rel_prom hR hn node bp.1 bp.2 vs
  rw[←hr2] at k3
  obtain ⟨env13,x13a,x13b,x13c,x13d⟩:=m13 cx.h none hp s3 env12 kd rd rn nn node X val a b s.length ((s.length+1)) bp.1 bp.2 ((slV 4 (vs.map encVt))) _ hp1 hp2 x12b f0 f1 f5 f7 f8 f9 hX rfl g5 g50 g9 g90 hbV (ko _ _) k2 k3 hS1.1.1 hS2.1.1 (Nat.le_trans hS1.1.1 hS2.1.1)
  have f0:=(x13d 0 (by decide)).trans f0
  have f1:=(x13d 1 (by decide)).trans f1
  have f5:=(x13d 5 (by decide)).trans f5
  have f7:=(x13d 7 (by decide)).trans f7
  have f8:=(x13d 8 (by decide)).trans f8
  have f9:=(x13d 9 (by decide)).trans f9
  have f38:=(x13d 38 (by decide)).trans f38
  have f39:=(x13d 39 (by decide)).trans f39
  have f69:=(x13d 69 (by decide)).trans f69
  have f6:=x13c
  exact ⟨hp2,_,_,call_of (fl:={tails:= [2000007,2000013,2000021]}) (fn:=Try.f15) (c:=bodyC) (env:=env) (e:=(.ret,(env13,AS.mk hp2 s3))) rfl Try.func15 body henv (by unfold bodyC; exact (execW_seq_of x1a (execW_seq_of x2a (execW_seq_of x3a (execW_seq_of (execW_seq_of x4a x9a) (execW_seq_ret (execW_seq_of x10a (block_exit (execW_seq_of x11a (execW_cond_f ev1 (execW_seq_of x12a (execW_cond_t ev2 (execW_seq_of x13a (by rfl)))))) (by simp))))))))) ((fin_tmp (k:=6) (w:= .bool true) (.inl rfl) rfl rfl f6 (by simp[AV.back]) (by simp[AV.inb])).trans (congrArg (fun z=>some (_,AS.mk _ z)) htk)),two_r hL2 hS2 hL1 hd1,hr1,small_prom hsm hvl,(Nat.le_trans hS1.1.1 hS2.1.1)⟩
 | false=>
  have ev2:=ev2.trans (congrArg (fun b=>some (AV.bool b)) q1)
  obtain ⟨env13,x13a,x13b,x13c,x13d⟩:=r14 cx env12 (AS.mk hp s3) kd x12b hcx f38
  have f0:=(x13d 0 (by decide)).trans f0
  have f1:=(x13d 1 (by decide)).trans f1
  have f5:=(x13d 5 (by decide)).trans f5
  have f7:=(x13d 7 (by decide)).trans f7
  have f8:=(x13d 8 (by decide)).trans f8
  have f9:=(x13d 9 (by decide)).trans f9
  have f38:=(x13d 38 (by decide)).trans f38
  have f39:=(x13d 39 (by decide)).trans f39
  have f69:=(x13d 69 (by decide)).trans f69
  have f87:=x13c
  have ev3:=ev_tmp f87
  by_cases q3:kd=3
  case pos=>
   rw[decide_eq_true q3] at ev3
   obtain ⟨hr1,hr2⟩:=rel_prop hR hn val
   have hP:=prop_ok hp s3 a me n p F val hL (fun e he=>(hR.lt e he).2) hR.nx0
   rcases hP with ⟨qe,k2⟩ | ⟨qe,hp1,F1,k2,hL1,hS1⟩
   ·skip
    obtain ⟨env14,x14a,x14b,x14c,x14d⟩:=r15 cx env13 (AS.mk hp s3) kd rd rn nn node X val a s.length 0 ((propE p.st p.nx val)) hp hp s3 x13b hcx f0 f5 hX rfl rfl (g50 _) k2
    have f0:=(x14d 0 (by decide)).trans f0
    have f1:=(x14d 1 (by decide)).trans f1
    have f5:=(x14d 5 (by decide)).trans f5
    have f7:=(x14d 7 (by decide)).trans f7
    have f8:=(x14d 8 (by decide)).trans f8
    have f9:=(x14d 9 (by decide)).trans f9
    have f38:=(x14d 38 (by decide)).trans f38
    have f39:=(x14d 39 (by decide)).trans f39
    have f69:=(x14d 69 (by decide)).trans f69
    have f87:=(x14d 87 (by decide)).trans f87
    have f14:=x14c.1
    have f15:=x14c.2
    have hQ:=RProp.ok hp s3 b me n r G val hD (by have:=hR.rlen; omega) (by rw[←hR.nx]; exact hR.nx0)
    rw[←hr2] at hQ
    rcases hQ with ⟨qe2,k3⟩ | ⟨qe2,hp2,F2,k3,hL2,hS2⟩
    ·skip
     obtain ⟨env15,x15a,x15b,x15c,x15d⟩:=r16 cx env14 (AS.mk hp s3) kd rd rn nn node X val b s.length 0 ((propE p.st p.nx val)) hp hp s3 x14b hcx f1 f5 hX rfl rfl (g50 _) k3
     have f0:=(x15d 0 (by decide)).trans f0
     have f1:=(x15d 1 (by decide)).trans f1
     have f5:=(x15d 5 (by decide)).trans f5
     have f7:=(x15d 7 (by decide)).trans f7
     have f8:=(x15d 8 (by decide)).trans f8
     have f9:=(x15d 9 (by decide)).trans f9
     have f14:=(x15d 14 (by decide)).trans f14
     have f15:=(x15d 15 (by decide)).trans f15
     have f38:=(x15d 38 (by decide)).trans f38
     have f39:=(x15d 39 (by decide)).trans f39
     have f69:=(x15d 69 (by decide)).trans f69
     have f87:=(x15d 87 (by decide)).trans f87
     have f16:=x15c.1
     have f17:=x15c.2
     obtain ⟨env16,x16a,x16b,x16c,x16d⟩:=r17 cx env15 (AS.mk hp s3) 0 ((propE p.st p.nx val)) x15b hcx f14 f15 f16 f17
     have f0:=(x16d 0 (by decide)).trans f0
     have f1:=(x16d 1 (by decide)).trans f1
     have f5:=(x16d 5 (by decide)).trans f5
     have f7:=(x16d 7 (by decide)).trans f7
     have f8:=(x16d 8 (by decide)).trans f8
     have f9:=(x16d 9 (by decide)).trans f9
     have f14:=(x16d 14 (by decide)).trans f14
     have f15:=(x16d 15 (by decide)).trans f15
     have f16:=(x16d 16 (by decide)).trans f16
     have f17:=(x16d 17 (by decide)).trans f17
     have f38:=(x16d 38 (by decide)).trans f38
     have f39:=(x16d 39 (by decide)).trans f39
     have f69:=(x16d 69 (by decide)).trans f69
     have f87:=(x16d 87 (by decide)).trans f87
     have f6:=x16c
     have e1:propL p val=p:=by unfold propL; rw[if_neg qe]
     have e2:propR r val=r:=by unfold propR; rw[←hr2,if_neg qe]
     rw[e1,e2] at hr1
     exact ⟨hp,p,r,call_of (fl:={tails:= [2000007,2000013,2000021]}) (fn:=Try.f15) (c:=bodyC) (env:=env) (e:=(.ret,(env16,AS.mk hp s3))) rfl Try.func15 body henv (by unfold bodyC; exact (execW_seq_of x1a (execW_seq_of x2a (execW_seq_of x3a (execW_seq_of (execW_seq_of x4a x9a) (execW_seq_ret (execW_seq_of x10a (block_exit (execW_seq_of x11a (execW_cond_f ev1 (execW_seq_of x12a (execW_cond_f ev2 (execW_seq_of x13a (execW_cond_t ev3 (execW_seq_of x14a (execW_seq_of x15a (execW_seq_of x16a (by rfl)))))))))) (by simp))))))))) ((fin_tmp (k:=6) (w:= .bool true) (.inl rfl) rfl rfl f6 (by simp[AV.back]) (by simp[AV.inb])).trans (congrArg (fun z=>some (_,AS.mk _ z)) htk)),⟨F,G,hL,hD,hd⟩,hr1,(hsm.mono (Nat.le_succ _)),Nat.le_refl _⟩
    ·exact absurd qe2 qe
   ·skip
    obtain ⟨hD1,hd1⟩:=two_l hL1 hS1 hD hd
    obtain ⟨env14,x14a,x14b,x14c,x14d⟩:=r15 cx env13 (AS.mk hp s3) kd rd rn nn node X val a s.length p.nx 0 hp1 hp s3 x13b hcx f0 f5 hX rfl rfl (g50 _) k2
    have f0:=(x14d 0 (by decide)).trans f0
    have f1:=(x14d 1 (by decide)).trans f1
    have f5:=(x14d 5 (by decide)).trans f5
    have f7:=(x14d 7 (by decide)).trans f7
    have f8:=(x14d 8 (by decide)).trans f8
    have f9:=(x14d 9 (by decide)).trans f9
    have f38:=(x14d 38 (by decide)).trans f38
    have f39:=(x14d 39 (by decide)).trans f39
    have f69:=(x14d 69 (by decide)).trans f69
    have f87:=(x14d 87 (by decide)).trans f87
    have f14:=x14c.1
    have f15:=x14c.2
    have hQ:=RProp.ok hp1 s3 b me n r G val hD1 (by have:=hR.rlen; omega) (by rw[←hR.nx]; exact hR.nx0)
    rw[←hr2,←hR.nx] at hQ
    rcases hQ with ⟨qe2,k3⟩ | ⟨qe2,hp2,F2,k3,hL2,hS2⟩
    ·exact absurd qe qe2
    ·skip
     obtain ⟨env15,x15a,x15b,x15c,x15d⟩:=r16 cx env14 (AS.mk hp1 s3) kd rd rn nn node X val b s.length p.nx 0 hp2 hp1 s3 x14b hcx f1 f5 hX rfl rfl (g50 _) k3
     have f0:=(x15d 0 (by decide)).trans f0
     have f1:=(x15d 1 (by decide)).trans f1
     have f5:=(x15d 5 (by decide)).trans f5
     have f7:=(x15d 7 (by decide)).trans f7
     have f8:=(x15d 8 (by decide)).trans f8
     have f9:=(x15d 9 (by decide)).trans f9
     have f14:=(x15d 14 (by decide)).trans f14
     have f15:=(x15d 15 (by decide)).trans f15
     have f38:=(x15d 38 (by decide)).trans f38
     have f39:=(x15d 39 (by decide)).trans f39
     have f69:=(x15d 69 (by decide)).trans f69
     have f87:=(x15d 87 (by decide)).trans f87
     have f16:=x15c.1
     have f17:=x15c.2
     obtain ⟨env16,x16a,x16b,x16c,x16d⟩:=r17 cx env15 (AS.mk hp2 s3) p.nx 0 x15b hcx f14 f15 f16 f17
     have f0:=(x16d 0 (by decide)).trans f0
     have f1:=(x16d 1 (by decide)).trans f1
     have f5:=(x16d 5 (by decide)).trans f5
     have f7:=(x16d 7 (by decide)).trans f7
     have f8:=(x16d 8 (by decide)).trans f8
     have f9:=(x16d 9 (by decide)).trans f9
     have f14:=(x16d 14 (by decide)).trans f14
     have f15:=(x16d 15 (by decide)).trans f15
     have f16:=(x16d 16 (by decide)).trans f16
     have f17:=(x16d 17 (by decide)).trans f17
     have f38:=(x16d 38 (by decide)).trans f38
     have f39:=(x16d 39 (by decide)).trans f39
     have f69:=(x16d 69 (by decide)).trans f69
     have f87:=(x16d 87 (by decide)).trans f87
     have f6:=x16c
     exact ⟨hp2,_,_,call_of (fl:={tails:= [2000007,2000013,2000021]}) (fn:=Try.f15) (c:=bodyC) (env:=env) (e:=(.ret,(env16,AS.mk hp2 s3))) rfl Try.func15 body henv (by unfold bodyC; exact (execW_seq_of x1a (execW_seq_of x2a (execW_seq_of x3a (execW_seq_of (execW_seq_of x4a x9a) (execW_seq_ret (execW_seq_of x10a (block_exit (execW_seq_of x11a (execW_cond_f ev1 (execW_seq_of x12a (execW_cond_f ev2 (execW_seq_of x13a (execW_cond_t ev3 (execW_seq_of x14a (execW_seq_of x15a (execW_seq_of x16a (by rfl)))))))))) (by simp))))))))) ((fin_tmp (k:=6) (w:= .bool true) (.inl rfl) rfl rfl f6 (by simp[AV.back]) (by simp[AV.inb])).trans (congrArg (fun z=>some (_,AS.mk _ z)) htk)),two_r hL2 hS2 hL1 hd1,hr1,small_prop hsm,(Nat.le_trans hS1.1.1 hS2.1.1)⟩
  rw[decide_eq_false q3] at ev3
  obtain ⟨env14,x14a,x14b,x14c,x14d⟩:=r18 cx env13 (AS.mk hp s3) kd x13b hcx f38
  have f0:=(x14d 0 (by decide)).trans f0
  have f1:=(x14d 1 (by decide)).trans f1
  have f5:=(x14d 5 (by decide)).trans f5
  have f7:=(x14d 7 (by decide)).trans f7
  have f8:=(x14d 8 (by decide)).trans f8
  have f9:=(x14d 9 (by decide)).trans f9
  have f38:=(x14d 38 (by decide)).trans f38
  have f39:=(x14d 39 (by decide)).trans f39
  have f69:=(x14d 69 (by decide)).trans f69
  have f87:=(x14d 87 (by decide)).trans f87
  have f111:=x14c
  have ev4:=ev_tmp f111
  cases q4:(decide (kd=4) || (decide (kd=5) || decide (kd=8))) with
  | true=>
   have ev4:=ev4.trans (congrArg (fun b=>some (AV.bool b)) q4)
   obtain ⟨hp1,F1,k2,hL1,hS1⟩:=LAcc.ok hp s3 a me n node bp.1 bp.2 nn p F hL (fun e he=>(hR.msk e he).1.ok) hR.asc
   obtain ⟨hD1,hd1⟩:=two_l hL1 hS1 hD hd
   obtain ⟨hp2,G2',k3,hL2,hS2⟩:=RAcc.ok hp1 s3 b me n node bp.1 bp.2 nn r G hD1 hR.rasc (by have:=hR.rlen; omega) (by have:=hsm.2.1; omega)
   obtain ⟨hr1,hr2⟩:=rel_acc hR hn node bp.1 bp.2 nn
   rw[←hr2] at k3
   obtain ⟨vz,zz,hz⟩: ∃v z,ansA (accL n p node bp.1 bp.2 nn).2= .tup [.str v, .bool z]:=by
    cases (accL n p node bp.1 bp.2 nn).2 with
    | none=>exact ⟨_,_,rfl⟩
    | some v=>exact ⟨_,_,rfl⟩
   rw[hz] at k2 k3
   obtain ⟨env15,x15a,x15b,x15c,x15d⟩:=m21 cx.h none hp s3 env14 kd rd rn nn node X val a s.length ((s.length+1)) bp.1 bp.2 vz zz hp1 x14b f0 f5 f9 hX rfl g5 g50 g9 g90 (ko _ _) k2 hS1.1.1
   have f0:=(x15d 0 (by decide)).trans f0
   have f1:=(x15d 1 (by decide)).trans f1
   have f5:=(x15d 5 (by decide)).trans f5
   have f7:=(x15d 7 (by decide)).trans f7
   have f8:=(x15d 8 (by decide)).trans f8
   have f9:=(x15d 9 (by decide)).trans f9
   have f38:=(x15d 38 (by decide)).trans f38
   have f39:=(x15d 39 (by decide)).trans f39
   have f69:=(x15d 69 (by decide)).trans f69
   have f87:=(x15d 87 (by decide)).trans f87
   have f111:=(x15d 111 (by decide)).trans f111
   have f18:=x15c.1
   have f19:=x15c.2
   obtain ⟨env16,x16a,x16b,x16c,x16d⟩:=r22 cx env15 (AS.mk hp1 s3) kd rd rn nn node X val b s.length ((s.length+1)) bp.1 bp.2 vz zz hp2 hp1 s3 x15b hcx f1 f5 f9 hX rfl rfl (g50 _) (g90 _) k3
   have f0:=(x16d 0 (by decide)).trans f0
   have f1:=(x16d 1 (by decide)).trans f1
   have f5:=(x16d 5 (by decide)).trans f5
   have f7:=(x16d 7 (by decide)).trans f7
   have f8:=(x16d 8 (by decide)).trans f8
   have f9:=(x16d 9 (by decide)).trans f9
   have f18:=(x16d 18 (by decide)).trans f18
   have f19:=(x16d 19 (by decide)).trans f19
   have f38:=(x16d 38 (by decide)).trans f38
   have f39:=(x16d 39 (by decide)).trans f39
   have f69:=(x16d 69 (by decide)).trans f69
   have f87:=(x16d 87 (by decide)).trans f87
   have f111:=(x16d 111 (by decide)).trans f111
   have f20:=x16c.1
   have f21:=x16c.2
   obtain ⟨env17,x17a,x17b,x17c,x17d⟩:=r23 cx env16 (AS.mk hp2 s3) vz zz x16b hcx f18 f19 f20 f21
   have f0:=(x17d 0 (by decide)).trans f0
   have f1:=(x17d 1 (by decide)).trans f1
   have f5:=(x17d 5 (by decide)).trans f5
   have f7:=(x17d 7 (by decide)).trans f7
   have f8:=(x17d 8 (by decide)).trans f8
   have f9:=(x17d 9 (by decide)).trans f9
   have f18:=(x17d 18 (by decide)).trans f18
   have f19:=(x17d 19 (by decide)).trans f19
   have f20:=(x17d 20 (by decide)).trans f20
   have f21:=(x17d 21 (by decide)).trans f21
   have f38:=(x17d 38 (by decide)).trans f38
   have f39:=(x17d 39 (by decide)).trans f39
   have f69:=(x17d 69 (by decide)).trans f69
   have f87:=(x17d 87 (by decide)).trans f87
   have f111:=(x17d 111 (by decide)).trans f111
   have f6:=x17c
   exact ⟨hp2,_,_,call_of (fl:={tails:= [2000007,2000013,2000021]}) (fn:=Try.f15) (c:=bodyC) (env:=env) (e:=(.ret,(env17,AS.mk hp2 s3))) rfl Try.func15 body henv (by unfold bodyC; exact (execW_seq_of x1a (execW_seq_of x2a (execW_seq_of x3a (execW_seq_of (execW_seq_of x4a x9a) (execW_seq_ret (execW_seq_of x10a (block_exit (execW_seq_of x11a (execW_cond_f ev1 (execW_seq_of x12a (execW_cond_f ev2 (execW_seq_of x13a (execW_cond_f ev3 (execW_seq_of x14a (execW_cond_t ev4 (execW_seq_of x15a (execW_seq_of x16a (execW_seq_of x17a (by rfl)))))))))))) (by simp))))))))) ((fin_tmp (k:=6) (w:= .bool true) (.inl rfl) rfl rfl f6 (by simp[AV.back]) (by simp[AV.inb])).trans (congrArg (fun z=>some (_,AS.mk _ z)) htk)),two_r hL2 hS2 hL1 hd1,hr1,small_acc hsm,(Nat.le_trans hS1.1.1 hS2.1.1)⟩
  | false=>
   have ev4:=ev4.trans (congrArg (fun b=>some (AV.bool b)) q4)
   obtain ⟨env15,x15a,x15b,x15c,x15d⟩:=r24 cx env14 (AS.mk hp s3) kd x14b hcx f38
   have f0:=(x15d 0 (by decide)).trans f0
   have f1:=(x15d 1 (by decide)).trans f1
   have f5:=(x15d 5 (by decide)).trans f5
   have f7:=(x15d 7 (by decide)).trans f7
   have f8:=(x15d 8 (by decide)).trans f8
   have f9:=(x15d 9 (by decide)).trans f9
   have f38:=(x15d 38 (by decide)).trans f38
   have f39:=(x15d 39 (by decide)).trans f39
   have f69:=(x15d 69 (by decide)).trans f69
   have f87:=(x15d 87 (by decide)).trans f87
   have f111:=(x15d 111 (by decide)).trans f111
   have f144:=x15c
   have ev5:=ev_tmp f144
   by_cases q6:kd=6
   case pos=>
    rw[decide_eq_true q6] at ev5
    obtain ⟨hp1,k2,hL1,hS1⟩:=quit_ok hp s3 a me n p F hL
    obtain ⟨hD1,hd1⟩:=two_l hL1 hS1 hD hd
    obtain ⟨hp2,k3,hL2,hS2⟩:=rquit_ok hp1 s3 b me n r G hD1
    obtain ⟨env16,x16a,x16b,x16c,x16d⟩:=r25 cx env15 (AS.mk hp s3) a hp1 hp s3 x15b hcx f0 rfl rfl k2
    have f0:=(x16d 0 (by decide)).trans f0
    have f1:=(x16d 1 (by decide)).trans f1
    have f5:=(x16d 5 (by decide)).trans f5
    have f7:=(x16d 7 (by decide)).trans f7
    have f8:=(x16d 8 (by decide)).trans f8
    have f9:=(x16d 9 (by decide)).trans f9
    have f38:=(x16d 38 (by decide)).trans f38
    have f39:=(x16d 39 (by decide)).trans f39
    have f69:=(x16d 69 (by decide)).trans f69
    have f87:=(x16d 87 (by decide)).trans f87
    have f111:=(x16d 111 (by decide)).trans f111
    have f144:=(x16d 144 (by decide)).trans f144
    obtain ⟨env17,x17a,x17b,x17c,x17d⟩:=r26 cx env16 (AS.mk hp1 s3) b hp2 hp1 s3 x16b hcx f1 rfl rfl k3
    have f0:=(x17d 0 (by decide)).trans f0
    have f1:=(x17d 1 (by decide)).trans f1
    have f5:=(x17d 5 (by decide)).trans f5
    have f7:=(x17d 7 (by decide)).trans f7
    have f8:=(x17d 8 (by decide)).trans f8
    have f9:=(x17d 9 (by decide)).trans f9
    have f38:=(x17d 38 (by decide)).trans f38
    have f39:=(x17d 39 (by decide)).trans f39
    have f69:=(x17d 69 (by decide)).trans f69
    have f87:=(x17d 87 (by decide)).trans f87
    have f111:=(x17d 111 (by decide)).trans f111
    have f144:=(x17d 144 (by decide)).trans f144
    obtain ⟨env18,x18a,x18b,x18c,x18d⟩:=r27 cx env17 (AS.mk hp2 s3) x17b hcx
    have f0:=(x18d 0 (by decide)).trans f0
    have f1:=(x18d 1 (by decide)).trans f1
    have f5:=(x18d 5 (by decide)).trans f5
    have f7:=(x18d 7 (by decide)).trans f7
    have f8:=(x18d 8 (by decide)).trans f8
    have f9:=(x18d 9 (by decide)).trans f9
    have f38:=(x18d 38 (by decide)).trans f38
    have f39:=(x18d 39 (by decide)).trans f39
    have f69:=(x18d 69 (by decide)).trans f69
    have f87:=(x18d 87 (by decide)).trans f87
    have f111:=(x18d 111 (by decide)).trans f111
    have f144:=(x18d 144 (by decide)).trans f144
    have f6:=x18c
    exact ⟨hp2,idleL,idleR,call_of (fl:={tails:= [2000007,2000013,2000021]}) (fn:=Try.f15) (c:=bodyC) (env:=env) (e:=(.ret,(env18,AS.mk hp2 s3))) rfl Try.func15 body henv (by unfold bodyC; exact (execW_seq_of x1a (execW_seq_of x2a (execW_seq_of x3a (execW_seq_of (execW_seq_of x4a x9a) (execW_seq_of (execW_seq_of x10a (execW_block_of (execW_seq_of x11a (execW_cond_f ev1 (execW_seq_of x12a (execW_cond_f ev2 (execW_seq_of x13a (execW_cond_f ev3 (execW_seq_of x14a (execW_cond_f ev4 (execW_seq_of x15a (execW_cond_t ev5 (execW_seq_of x16a x17a))))))))))))) (execW_seq_of x18a (by rfl)))))))) ((fin_tmp (k:=6) (w:= .bool true) (.inl rfl) rfl rfl f6 (by simp[AV.back]) (by simp[AV.inb])).trans (congrArg (fun z=>some (_,AS.mk _ z)) htk)),two_r hL2 hS2 hL1 hd1,rel_idle,⟨Nat.zero_le _,Nat.zero_le _,fun p hp=>by cases hp⟩,(Nat.le_trans hS1.1.1 hS2.1.1)⟩
   rw[decide_eq_false q6] at ev5
   obtain ⟨env16,x16a,x16b,x16c,x16d⟩:=r27 cx env15 (AS.mk hp s3) x15b hcx
   have f0:=(x16d 0 (by decide)).trans f0
   have f1:=(x16d 1 (by decide)).trans f1
   have f5:=(x16d 5 (by decide)).trans f5
   have f7:=(x16d 7 (by decide)).trans f7
   have f8:=(x16d 8 (by decide)).trans f8
   have f9:=(x16d 9 (by decide)).trans f9
   have f38:=(x16d 38 (by decide)).trans f38
   have f39:=(x16d 39 (by decide)).trans f39
   have f69:=(x16d 69 (by decide)).trans f69
   have f87:=(x16d 87 (by decide)).trans f87
   have f111:=(x16d 111 (by decide)).trans f111
   have f144:=(x16d 144 (by decide)).trans f144
   have f6:=x16c
   exact ⟨hp,p,r,call_of (fl:={tails:= [2000007,2000013,2000021]}) (fn:=Try.f15) (c:=bodyC) (env:=env) (e:=(.ret,(env16,AS.mk hp s3))) rfl Try.func15 body henv (by unfold bodyC; exact (execW_seq_of x1a (execW_seq_of x2a (execW_seq_of x3a (execW_seq_of (execW_seq_of x4a x9a) (execW_seq_of (execW_seq_of x10a (execW_block_of (execW_seq_of x11a (execW_cond_f ev1 (execW_seq_of x12a (execW_cond_f ev2 (execW_seq_of x13a (execW_cond_f ev3 (execW_seq_of x14a (execW_cond_f ev4 (execW_seq_of x15a (execW_cond_f ev5 (by rfl))))))))))))) (execW_seq_of x16a (by rfl)))))))) ((fin_tmp (k:=6) (w:= .bool true) (.inl rfl) rfl rfl f6 (by simp[AV.back]) (by simp[AV.inb])).trans (congrArg (fun z=>some (_,AS.mk _ z)) htk)),⟨F,G,hL,hD,hd⟩,hR,(hsm.mono (Nat.le_succ _)),Nat.le_refl _⟩
end LStep
