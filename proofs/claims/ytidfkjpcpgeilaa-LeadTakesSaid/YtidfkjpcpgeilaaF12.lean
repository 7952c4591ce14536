/- Walk 12. -/

import Derived.Test.YtidfkjpcpgeilaaF11
import Derived.Test.YtidfkjpcpgeilaaG2
open Go Go.Abs Go.Proofs
set_option maxRecDepth 100000
set_option maxHeartbeats 4000000
set_option linter.unusedSimpArgs false
set_option linter.unusedVariables false
open Ldr
theorem appP:AppOk Try.prog 38 2 32:=⟨91, .slice 91,by simp[elemA],by simp,by simp,by kernel_rfl,rfl,by decide,by simp[AV.cells]⟩
theorem rdPm {hp:List AObj} {X:AV} {P:List (Int×List Vt)} {G:List Nat} (h:HRw 2 hp X (P.map encPm) G) (st:List AObj):Rd Try.prog ⟨hp,st⟩ 38 91 X (P.map encPm):=
 h.rd (by simp) s91 (by decide) fun c hc=>by
  obtain ⟨v,_,rfl⟩:=List.mem_map.1 hc
  simp[partA,aggA,isAggD,encPm,AV.cells]
def anyN (node:Int) (P:List (Int×List Vt)):Bool:=P.any fun x=>decide (x.1=node)
theorem anyN_succ {node:Int} {P:List (Int×List Vt)} {k:Nat} (hk:k<P.length):anyN node (P.take (k+1))=(anyN node (P.take k) || decide (P[k].1=node)):=by
 unfold anyN
 rw[List.take_succ_eq_append_getElem hk,List.any_append]
 simp
theorem anyN_at {node:Int} {P:List (Int×List Vt)} {k:Nat} (hk:k<P.length) (h:P[k].1=node):anyN node P=true:=List.any_eq_true.2 ⟨P[k],List.getElem_mem hk,decide_eq_true h⟩
theorem rowsR_none (P:List (Int×List Vt)) (a b:Int) (h:b≤a):rowsR P a b= []:=by
 unfold rowsR
 rw[show (b - a).toNat=0 by omega]
 rfl
theorem rowsR_cons (P:List (Int×List Vt)) (a b:Int) (h:a<b):rowsR P a b=(a,((valueF P a).getD zeroVt).v):: rowsR P (a+1) b:=by
 unfold rowsR
 obtain ⟨m,hm⟩: ∃m,(b - a).toNat=m+1:=⟨(b - a).toNat - 1,by omega⟩
 rw[hm,show (b - (a+1)).toNat=m by omega,List.range_succ_eq_map,List.map_cons,List.map_map]
 congr 1
 ·simp
 ·refine List.map_congr_left fun k _=>?_
  simp only[Function.comp]
  rw[show a+((k.succ:Nat):Int)=a+1+(k:Int) by omega]
def rkS (r:Rv) (k:Nat):Rv:={r with st:=2,nx:=topK r.P r.fr k,op:=rowsR r.P (400 - (k:Int)) (topK r.P r.fr k)}
theorem topK_yes {P:List (Int×List Vt)} {fr:Int} {k:Nat} (h:((valueF P (399 - (k:Int))).isSome && decide (topK P fr k=fr))=true):topK P fr (k+1)=399 - (k:Int)+1:=by
 rw[topK,if_pos h]
theorem topK_no {P:List (Int×List Vt)} {fr:Int} {k:Nat} (h:((valueF P (399 - (k:Int))).isSome && decide (topK P fr k=fr))=false):topK P fr (k+1)=topK P fr k:=by
 rw[topK,if_neg (by rw[h]; simp)]
theorem rows_step (P:List (Int×List Vt)) (fr:Int) (k:Nat) (hk:fr+(k:Int)<400):rowsR P (400 - (k:Int)) (topK P fr k)=rowsR P (400 - (k:Int)) (topK P fr (k+1))∧
  (399 - (k:Int)<topK P fr (k+1)→rowsR P (400 - ((k+1:Nat):Int)) (topK P fr (k+1))=(399 - (k:Int),((valueF P (399 - (k:Int))).getD zeroVt).v):: rowsR P (400 - (k:Int)) (topK P fr (k+1)))∧
  (¬399 - (k:Int)<topK P fr (k+1)→rowsR P (400 - ((k+1:Nat):Int)) (topK P fr (k+1))=rowsR P (400 - (k:Int)) (topK P fr (k+1))):=by
 have e1:400 - ((k+1:Nat):Int)=399 - (k:Int):=by omega
 have e2:399 - (k:Int)+1=400 - (k:Int):=by omega
 refine ⟨?_,fun h=>?_,fun h=>?_⟩
 ·cases q:((valueF P (399 - (k:Int))).isSome && decide (topK P fr k=fr)) with
  | false=>rw[topK_no q]
  | true=>
   rw[topK_yes q]
   rw[Bool.and_eq_true,decide_eq_true_iff] at q
   rw[rowsR_none _ _ _ (by omega),rowsR_none _ _ _ (by omega)]
 ·rw[e1,rowsR_cons _ _ _ h,e2]
 ·rw[e1,rowsR_none _ _ _ (by omega),rowsR_none _ _ _ (by omega)]
namespace RProm
noncomputable def cr (p:List Dir):Code:=sub p (bodyOf Try.f11)
section
attribute [local simp] ofV ofCell ofCells seqA_nil seqA_cons seqVK_eq seqEK_eq wantedA yieldedA isVal effA ev evs evps putE optsA optsOk valA fieldAddrA fieldA loadA partA aggA isAggD buildA placesA fillA lay storeA AV.withCells buildSliceA elemsA rowParts fzL promL okE isSrc bytesOk pushA cxOf lenA binA intBinA strBinA unA indexAddrA eqA AVs.inb AV.inb Loc.inb calleeA opsOf sub bodyOf Env.get_set quietA_nil quietA_cons quietK_none quietK_some qstep newA isNew escNew boxOk newLoc flat rowPartsQ quietN quietOp isBS List.takeWhile finishA_eq finK_ret finK_normal retK backK resA oneA AV.back AVs.back execW_seq_eq seqK_normal seqK_ret seqK_exit execW_cond_eq condK_true condK_false execW_block_eq blockK_exit blockK_normal blockK_ret execW_region_eq regK_eq execW_skip execW_exit execW_ret regionA_plain regionA_quiet0 tailK_eq nilCheckA guardOk isConst lookupA keyFits mapUpdateA beqI bneI
theorem rA (cx:Cx) (env:Env) (σ:AS) (hp s:List AObj) (rd rn:Int) (hlen:env.length=135) (hcx:cx.esc= []) (f2:Env.get env 2= .agg [.int .u64 rd, .int .i64 rn]) (hσ:σ=⟨hp,s⟩) (hro0:cx.ro=none):
  Pc Try.prog how cx [] 135 [6,8] (cr [.l]) env σ (.normal) (AS.mk hp (s++ [.cells [.int .u64 rd, .int .i64 rn]])) (fun env'=>Env.get env' 6= .ptr (.st s.length) 0∧Env.get env' 8= .bool false):=by
 refine pc_of fun res hr=>?_
 simp -implicitDefEqProofs [AS.get_push_at,AS.get_push_old,AS.push_len,AS.set_st_len,AS.next_st',AS.set_push_at,AS.get_set_self,AS.get_set_other,cr,Try.f11,hlen,hcx,f2,hσ,hro0] at hr
 subst hr
 refine ⟨_,rfl,by simp[hlen],by simp[Env.get_set,hlen,f2,hσ,hro0],fun i hi=>?_⟩
 simp only[List.mem_cons,List.not_mem_nil,or_false,not_or] at hi
 simp only[putE,get_set2,hi,false_and,if_false]
theorem r1 (cx:Cx) (env:Env) (σ:AS) (a:Nat) (me n st br bn fr nx:Int) (X A O:AV) (rd rn k:Int) (i:Nat) (hp s:List AObj) (hlen:env.length=135) (hcx:cx.esc= []) (f0:Env.get env 0= .ptr (.hp a) 0) (f1:Env.get env 1= .int .i64 k) (f6:Env.get env 6= .ptr (.st i) 0) (hX1:X.one=true) (hA1:A.one=true) (hO1:O.one=true) (hσ:σ=⟨hp,s⟩) (hA:(AS.mk hp s).get (.hp a)=some (.cells [.int .i64 me, .int .i64 n, .int .i64 st, .int .u64 br, .int .i64 bn, .int .i64 fr,X,A,O, .int .i64 nx])) (gi:(AS.mk hp s).get (.st i)=some (.cells [.int .u64 rd, .int .i64 rn])):
  Pc Try.prog how cx [] 135 [14,15,16,17,18,19,20,21,22,23,24,25,26,27,28,29,30,31,32,33,34,35,36,37,38] (cr [.r, .l, .l]) env σ (.normal) (AS.mk hp s) (fun env'=>Env.get env' 38= .bool (!(decide (st=1) && (decide (rd=br) && decide (rn=bn)) && (decide (0≤k) && decide (k<n))))):=by
 by_cases q1:st=1 <;> by_cases q2:rd=br <;> by_cases q3:rn=bn <;> rcases (show (0≤k∧ ¬k<0)∨(¬0≤k∧k<0) by omega) with ⟨q4,q6⟩ | ⟨q4,q6⟩<;> rcases (show (k<n∧ ¬n≤k)∨(¬k<n∧n≤k) by omega) with ⟨q5,q7⟩ | ⟨q5,q7⟩
 all_goals first | (fail; done) | (
   refine pc_of fun res hr=>?_
   simp -implicitDefEqProofs [-eqA,AS.get_push_at,AS.get_push_old,AS.push_len,AS.set_st_len,AS.next_st',AS.set_push_at,AS.get_set_self,AS.get_set_other,cr,Try.f11,hlen,hcx,f0,f1,f6,hX1,hA1,hO1,hσ,hA,gi,q1,q2,q3,q4,q5,q6,q7,gd37,eqB37] at hr
   subst hr
   refine ⟨_,rfl,by simp[hlen],by simp[Env.get_set,hlen,f0,f1,f6,hX1,hA1,hO1,hσ,hA,gi,q1,q2,q3,q4,q5,q6,q7,gd37,eqB37],fun i hi=>?_⟩
   simp only[List.mem_cons,List.not_mem_nil,or_false,not_or] at hi
   simp only[putE,get_set2,hi,false_and,if_false]
  )
theorem r2 (cx:Cx) (env:Env) (σ:AS) (hlen:env.length=135) (hcx:cx.esc= []):
  Pc Try.prog how cx [] 135 [8] (cr [.r, .l, .r, .l, .l]) env σ (.normal) (σ) (fun env'=>Env.get env' 8= .bool false):=by
 refine pc_of fun res hr=>?_
 simp -implicitDefEqProofs [AS.get_push_at,AS.get_push_old,AS.push_len,AS.set_st_len,AS.next_st',AS.set_push_at,AS.get_set_self,AS.get_set_other,cr,Try.f11,hlen,hcx] at hr
 subst hr
 refine ⟨_,rfl,by simp[hlen],by simp[Env.get_set,hlen],fun i hi=>?_⟩
 simp only[List.mem_cons,List.not_mem_nil,or_false,not_or] at hi
 simp only[putE,get_set2,hi,false_and,if_false]
theorem r3 (cx:Cx) (env:Env) (σ:AS) (a:Nat) (me n st br bn fr nx:Int) (X A O:AV) (n0:Nat) (hlen:env.length=135) (hcx:cx.esc= []) (f0:Env.get env 0= .ptr (.hp a) 0) (hX1:X.one=true) (hA1:A.one=true) (hO1:O.one=true) (hA:σ.get (.hp a)=some (.cells [.int .i64 me, .int .i64 n, .int .i64 st, .int .u64 br, .int .i64 bn, .int .i64 fr,X,A,O, .int .i64 nx])) (hl:lenA Try.prog σ 38 X=some n0):
  Pc Try.prog how cx [] 135 [39,40,41,42,43,44] (cr [.r, .r, .l, .l]) env σ (.normal) (σ) (fun env'=>Env.get env' 42=X∧Env.get env' 43= .int .i64 (n0:Int)∧Env.get env' 44= .int .i64 0):=by
 refine pc_of fun res hr=>?_
 simp -implicitDefEqProofs [-lenA,AS.get_push_at,AS.get_push_old,AS.push_len,AS.set_st_len,AS.next_st',AS.set_push_at,AS.get_set_self,AS.get_set_other,cr,Try.f11,hlen,hcx,f0,hX1,hA1,hO1,hA,hl] at hr
 subst hr
 refine ⟨_,rfl,by simp[hlen],by simp[Env.get_set,hlen,f0,hX1,hA1,hO1,hA,hl],fun i hi=>?_⟩
 simp only[List.mem_cons,List.not_mem_nil,or_false,not_or] at hi
 simp only[putE,get_set2,hi,false_and,if_false]
theorem rE (cx:Cx) (env:Env) (σ:AS) (k:Nat) (X pp W:AV) (nd:Int) (hlen:env.length=135) (hcx:cx.esc= []) (f42:Env.get env 42=X) (f44:Env.get env 44= .int .i64 (k:Int)) (hia:indexAddrA Try.prog σ 38 X (.int .i64 (k:Int))=some pp) (hpa:loadA Try.prog σ 91 pp=some (.agg [.int .i64 nd,W])) (hW:Plain W) (hw:wok cx.ro (.st σ.st.length)=true) (hh:cx.h≤σ.st.length):
  Pc Try.prog how cx [] 135 [10,46,47] (cr [.r, .r, .l, .r, .i, .i, .r, .r, .l, .i, .l]) env σ (.normal) (σ.push false (.cells [.int .i64 nd,W])) (fun env'=>Env.get env' 10= .ptr (.st σ.st.length) 0):=by
 refine pc_of fun res hr=>?_
 simp -implicitDefEqProofs [-indexAddrA,-loadA,AS.get_push_at,AS.get_push_old,AS.push_len,AS.set_st_len,AS.next_st',AS.set_push_at,AS.get_set_self,AS.get_set_other,cr,Try.f11,hlen,hcx,f42,f44,hia,hpa,hW.one,hW.inb,hW.row,hW.cells,hw,hh] at hr
 subst hr
 refine ⟨_,rfl,by simp[hlen],by simp[Env.get_set,hlen,f42,f44,hia,hpa,hW.one,hW.inb,hW.row,hW.cells,hw,hh],fun i hi=>?_⟩
 simp only[List.mem_cons,List.not_mem_nil,or_false,not_or] at hi
 simp only[putE,get_set2,hi,false_and,if_false]
theorem rF (cx:Cx) (env:Env) (σ:AS) (c:Nat) (W:AV) (nd k:Int) (hlen:env.length=135) (hcx:cx.esc= []) (f1:Env.get env 1= .int .i64 k) (f10:Env.get env 10= .ptr (.st c) 0) (gc:σ.get (.st c)=some (.cells [.int .i64 nd,W])):
  Pc Try.prog how cx [] 135 [48,49,50,51] (cr [.r, .r, .l, .r, .i, .i, .r, .r, .l, .i, .r, .l]) env σ (.normal) (σ) (fun env'=>Env.get env' 51= .bool (decide (nd=k))):=by
 refine pc_of fun res hr=>?_
 simp -implicitDefEqProofs [AS.get_push_at,AS.get_push_old,AS.push_len,AS.set_st_len,AS.next_st',AS.set_push_at,AS.get_set_self,AS.get_set_other,cr,Try.f11,hlen,hcx,f1,f10,gc] at hr
 subst hr
 refine ⟨_,rfl,by simp[hlen],by simp[Env.get_set,hlen,f1,f10,gc],fun i hi=>?_⟩
 simp only[List.mem_cons,List.not_mem_nil,or_false,not_or] at hi
 simp only[putE,get_set2,hi,false_and,if_false]
theorem rG (cx:Cx) (env:Env) (σ:AS) (hlen:env.length=135) (hcx:cx.esc= []):
  Pc Try.prog how cx [] 135 [8] (cr [.r, .r, .l, .r, .i, .i, .r, .r, .l, .i, .r, .r, .l, .l]) env σ (.normal) (σ) (fun env'=>Env.get env' 8= .bool false):=by
 refine pc_of fun res hr=>?_
 simp -implicitDefEqProofs [AS.get_push_at,AS.get_push_old,AS.push_len,AS.set_st_len,AS.next_st',AS.set_push_at,AS.get_set_self,AS.get_set_other,cr,Try.f11,hlen,hcx] at hr
 subst hr
 refine ⟨_,rfl,by simp[hlen],by simp[Env.get_set,hlen],fun i hi=>?_⟩
 simp only[List.mem_cons,List.not_mem_nil,or_false,not_or] at hi
 simp only[putE,get_set2,hi,false_and,if_false]
theorem r9 (cx:Cx) (env:Env) (σ:AS) (a:Nat) (me n st br bn fr nx:Int) (X A O:AV) (k:Int) (Y R:AV) (hp1 st1 hp2 st2:List AObj) (hp s:List AObj) (hlen:env.length=135) (hcx:cx.esc= []) (f0:Env.get env 0= .ptr (.hp a) 0) (f1:Env.get env 1= .int .i64 k) (f3:Env.get env 3=Y) (hX1:X.one=true) (hA1:A.one=true) (hO1:O.one=true) (hσ:σ=⟨hp,s⟩) (hY:Plain Y) (hA: ∀s,(AS.mk hp s).get (.hp a)=some (.cells [.int .i64 me, .int .i64 n, .int .i64 st, .int .u64 br, .int .i64 bn, .int .i64 fr,X,A,O, .int .i64 nx])) (hz: ∀σ,fzL cx.ro σ [.int .i64 k,Y]=some ([.int .i64 k,Y],σ)) (hap:appendA Try.prog cx ⟨hp,s++ [.row [.agg [.int .i64 k,Y]] 2 0 false]⟩ [38,38] X (.row (.st s.length) 0 0 1)=some (R,⟨hp1,st1⟩)) (hst:storeA Try.prog cx ⟨hp1,st1⟩ 38 (.ptr (.hp a) 6) R=some ⟨hp2,st2⟩):
  Pc Try.prog how cx [] 135 [53,54,55,56,57,58,59,60,61,62,63,64] (cr [.r, .r, .r, .l]) env σ (.normal) (AS.mk hp2 st2) (fun _=>True):=by
 refine pc_of fun res hr=>?_
 simp -implicitDefEqProofs [-fzL,-storeA,AS.get_push_at,AS.get_push_old,AS.push_len,AS.set_st_len,AS.next_st',AS.set_push_at,AS.get_set_self,AS.get_set_other,cr,Try.f11,hlen,hcx,f0,f1,f3,hX1,hA1,hO1,hσ,hY.one,hY.inb,hY.row,hY.cells,hA,hz,hap,hst,elemA] at hr
 subst hr
 refine ⟨_,rfl,by simp[hlen],by simp[Env.get_set,hlen,f0,f1,f3,hX1,hA1,hO1,hσ,hY.one,hY.inb,hY.row,hY.cells,hA,hz,hap,hst,elemA],fun i hi=>?_⟩
 simp only[List.mem_cons,List.not_mem_nil,or_false,not_or] at hi
 simp only[putE,get_set2,hi,false_and,if_false]
theorem r10 (cx:Cx) (env:Env) (σ:AS) (a:Nat) (me n st br bn fr nx:Int) (X A O:AV) (n0:Nat) (hlen:env.length=135) (hcx:cx.esc= []) (f0:Env.get env 0= .ptr (.hp a) 0) (hX1:X.one=true) (hA1:A.one=true) (hO1:O.one=true) (hA:σ.get (.hp a)=some (.cells [.int .i64 me, .int .i64 n, .int .i64 st, .int .u64 br, .int .i64 bn, .int .i64 fr,X,A,O, .int .i64 nx])) (hl:lenA Try.prog σ 38 X=some n0) (hw:wr .i64 (2*(n0:Int))=2*(n0:Int)):
  Pc Try.prog how cx [] 135 [65,66,67,68,69,70,71,72,73,74,75] (cr [.r, .r, .r, .r, .l, .l]) env σ (.normal) (σ) (fun env'=>Env.get env' 75= .bool (decide (2*(n0:Int)≤n))):=by
 refine pc_of fun res hr=>?_
 simp -implicitDefEqProofs [-lenA,AS.get_push_at,AS.get_push_old,AS.push_len,AS.set_st_len,AS.next_st',AS.set_push_at,AS.get_set_self,AS.get_set_other,cr,Try.f11,hlen,hcx,f0,hX1,hA1,hO1,hA,hl,hw] at hr
 subst hr
 refine ⟨_,rfl,by simp[hlen],by simp[Env.get_set,hlen,f0,hX1,hA1,hO1,hA,hl,hw],fun i hi=>?_⟩
 simp only[List.mem_cons,List.not_mem_nil,or_false,not_or] at hi
 simp only[putE,get_set2,hi,false_and,if_false]
theorem r11 (cx:Cx) (env:Env) (σ:AS) (hlen:env.length=135) (hcx:cx.esc= []):
  Pc Try.prog how cx [] 135 [8] (cr [.r, .r, .r, .r, .l, .r, .l, .l]) env σ (.normal) (σ) (fun env'=>Env.get env' 8= .bool false):=by
 refine pc_of fun res hr=>?_
 simp -implicitDefEqProofs [AS.get_push_at,AS.get_push_old,AS.push_len,AS.set_st_len,AS.next_st',AS.set_push_at,AS.get_set_self,AS.get_set_other,cr,Try.f11,hlen,hcx] at hr
 subst hr
 refine ⟨_,rfl,by simp[hlen],by simp[Env.get_set,hlen],fun i hi=>?_⟩
 simp only[List.mem_cons,List.not_mem_nil,or_false,not_or] at hi
 simp only[putE,get_set2,hi,false_and,if_false]
theorem r12 (cx:Cx) (env:Env) (σ:AS) (a:Nat) (me n st br bn fr nx:Int) (X A O:AV) (hp s:List AObj) (hlen:env.length=135) (hcx:cx.esc= []) (f0:Env.get env 0= .ptr (.hp a) 0) (hX1:X.one=true) (hA1:A.one=true) (hO1:O.one=true) (hσ:σ=⟨hp,s⟩) (hro0:cx.ro=none) (hA:(AS.mk hp s).get (.hp a)=some (.cells [.int .i64 me, .int .i64 n, .int .i64 st, .int .u64 br, .int .i64 bn, .int .i64 fr,X,A,O, .int .i64 nx])):
  Pc Try.prog how cx [] 135 [76,77,78] (cr [.r, .r, .r, .r, .r, .l]) env σ (.normal) (AS.mk (hp.set a (.cells [.int .i64 me, .int .i64 n, .int .i64 2, .int .u64 br, .int .i64 bn, .int .i64 fr,X,A,O, .int .i64 nx])) s) (fun _=>True):=by
 refine pc_of fun res hr=>?_
 simp -implicitDefEqProofs [AS.get_push_at,AS.get_push_old,AS.push_len,AS.set_st_len,AS.next_st',AS.set_push_at,AS.get_set_self,AS.get_set_other,cr,Try.f11,hlen,hcx,f0,hX1,hA1,hO1,hσ,hro0,hA,AS.set,wok] at hr
 subst hr
 refine ⟨_,rfl,by simp[hlen],by simp[Env.get_set,hlen,f0,hX1,hA1,hO1,hσ,hro0,hA,AS.set,wok],fun i hi=>?_⟩
 simp only[List.mem_cons,List.not_mem_nil,or_false,not_or] at hi
 simp only[putE,get_set2,hi,false_and,if_false]
theorem r13 (cx:Cx) (env:Env) (σ:AS) (a:Nat) (me n st br bn fr nx:Int) (X A O:AV) (hp s:List AObj) (hlen:env.length=135) (hcx:cx.esc= []) (f0:Env.get env 0= .ptr (.hp a) 0) (hX1:X.one=true) (hA1:A.one=true) (hO1:O.one=true) (hσ:σ=⟨hp,s⟩) (hro0:cx.ro=none) (hA:(AS.mk hp s).get (.hp a)=some (.cells [.int .i64 me, .int .i64 n, .int .i64 st, .int .u64 br, .int .i64 bn, .int .i64 fr,X,A,O, .int .i64 nx])):
  Pc Try.prog how cx [] 135 [79,80,81,82,83,84,85] (cr [.r, .r, .r, .r, .r, .r, .l]) env σ (.normal) (AS.mk (hp.set a (.cells [.int .i64 me, .int .i64 n, .int .i64 st, .int .u64 br, .int .i64 bn, .int .i64 fr,X,A,O, .int .i64 fr])) s) (fun _=>True):=by
 refine pc_of fun res hr=>?_
 simp -implicitDefEqProofs [AS.get_push_at,AS.get_push_old,AS.push_len,AS.set_st_len,AS.next_st',AS.set_push_at,AS.get_set_self,AS.get_set_other,cr,Try.f11,hlen,hcx,f0,hX1,hA1,hO1,hσ,hro0,hA,AS.set,wok] at hr
 subst hr
 refine ⟨_,rfl,by simp[hlen],by simp[Env.get_set,hlen,f0,hX1,hA1,hO1,hσ,hro0,hA,AS.set,wok],fun i hi=>?_⟩
 simp only[List.mem_cons,List.not_mem_nil,or_false,not_or] at hi
 simp only[putE,get_set2,hi,false_and,if_false]
theorem r14 (cx:Cx) (env:Env) (σ:AS) (hlen:env.length=135) (hcx:cx.esc= []):
  Pc Try.prog how cx [] 135 [11] (cr [.r, .r, .r, .r, .r, .r, .r, .l, .l]) env σ (.normal) (σ) (fun env'=>Env.get env' 11= .int .i64 399):=by
 refine pc_of fun res hr=>?_
 simp -implicitDefEqProofs [AS.get_push_at,AS.get_push_old,AS.push_len,AS.set_st_len,AS.next_st',AS.set_push_at,AS.get_set_self,AS.get_set_other,cr,Try.f11,hlen,hcx] at hr
 subst hr
 refine ⟨_,rfl,by simp[hlen],by simp[Env.get_set,hlen],fun i hi=>?_⟩
 simp only[List.mem_cons,List.not_mem_nil,or_false,not_or] at hi
 simp only[putE,get_set2,hi,false_and,if_false]
theorem r15 (cx:Cx) (env:Env) (σ:AS) (a:Nat) (me n st br bn fr nx:Int) (X A O:AV) (x:Int) (hlen:env.length=135) (hcx:cx.esc= []) (f0:Env.get env 0= .ptr (.hp a) 0) (f11:Env.get env 11= .int .i64 x) (hX1:X.one=true) (hA1:A.one=true) (hO1:O.one=true) (hA:σ.get (.hp a)=some (.cells [.int .i64 me, .int .i64 n, .int .i64 st, .int .u64 br, .int .i64 bn, .int .i64 fr,X,A,O, .int .i64 nx])):
  Pc Try.prog how cx [] 135 [86,87,88,89,90,91] (cr [.r, .r, .r, .r, .r, .r, .r, .l, .r, .i, .i, .l, .l]) env σ (.normal) (σ) (fun env'=>Env.get env' 91= .bool (decide (fr≤x))):=by
 refine pc_of fun res hr=>?_
 simp -implicitDefEqProofs [AS.get_push_at,AS.get_push_old,AS.push_len,AS.set_st_len,AS.next_st',AS.set_push_at,AS.get_set_self,AS.get_set_other,cr,Try.f11,hlen,hcx,f0,f11,hX1,hA1,hO1,hA] at hr
 subst hr
 refine ⟨_,rfl,by simp[hlen],by simp[Env.get_set,hlen,f0,f11,hX1,hA1,hO1,hA],fun i hi=>?_⟩
 simp only[List.mem_cons,List.not_mem_nil,or_false,not_or] at hi
 simp only[putE,get_set2,hi,false_and,if_false]
theorem r17 (cx:Cx) (env:Env) (σ:AS) (a:Nat) (x:Int) (v:ByteArray) (ok:Bool) (hlen:env.length=135) (hcx:cx.esc= []) (f0:Env.get env 0= .ptr (.hp a) 0) (f11:Env.get env 11= .int .i64 x) (k1:callW Try.prog how 31 [.ptr (.hp a) 0, .int .i64 x] σ cx.ro=some (.tup [.str v, .bool ok],σ)):
  Pc Try.prog how cx [] 135 [12,13,94,95,96,97,98,99] (cr [.r, .r, .r, .r, .r, .r, .r, .l, .r, .i, .i, .r, .l, .i, .l]) env σ (.normal) (σ) (fun env'=>Env.get env' 12= .str v∧Env.get env' 13= .bool ok):=by
 refine pc_of fun res hr=>?_
 simp -implicitDefEqProofs [AS.get_push_at,AS.get_push_old,AS.push_len,AS.set_st_len,AS.next_st',AS.set_push_at,AS.get_set_self,AS.get_set_other,cr,Try.f11,hlen,hcx,f0,f11,k1] at hr
 subst hr
 refine ⟨_,rfl,by simp[hlen],by simp[Env.get_set,hlen,f0,f11,k1],fun i hi=>?_⟩
 simp only[List.mem_cons,List.not_mem_nil,or_false,not_or] at hi
 simp only[putE,get_set2,hi,false_and,if_false]
theorem r18 (cx:Cx) (env:Env) (σ:AS) (a:Nat) (me n st br bn fr nx:Int) (X A O:AV) (ok:Bool) (hp s:List AObj) (hlen:env.length=135) (hcx:cx.esc= []) (f0:Env.get env 0= .ptr (.hp a) 0) (f13:Env.get env 13= .bool ok) (hX1:X.one=true) (hA1:A.one=true) (hO1:O.one=true) (hσ:σ=⟨hp,s⟩) (hA:(AS.mk hp s).get (.hp a)=some (.cells [.int .i64 me, .int .i64 n, .int .i64 st, .int .u64 br, .int .i64 bn, .int .i64 fr,X,A,O, .int .i64 nx])):
  Pc Try.prog how cx [] 135 [100,101,102,103,104,105,106,107,108,109,110,111] (cr [.r, .r, .r, .r, .r, .r, .r, .l, .r, .i, .i, .r, .l, .i, .r, .l, .l]) env σ (.normal) (AS.mk hp s) (fun env'=>Env.get env' 111= .bool (ok && decide (nx=fr))):=by
 cases ok
 all_goals first | (fail; done) | (
   refine pc_of fun res hr=>?_
   simp -implicitDefEqProofs [AS.get_push_at,AS.get_push_old,AS.push_len,AS.set_st_len,AS.next_st',AS.set_push_at,AS.get_set_self,AS.get_set_other,cr,Try.f11,hlen,hcx,f0,f13,hX1,hA1,hO1,hσ,hA] at hr
   subst hr
   refine ⟨_,rfl,by simp[hlen],by simp[Env.get_set,hlen,f0,f13,hX1,hA1,hO1,hσ,hA],fun i hi=>?_⟩
   simp only[List.mem_cons,List.not_mem_nil,or_false,not_or] at hi
   simp only[putE,get_set2,hi,false_and,if_false]
  )
theorem r19 (cx:Cx) (env:Env) (σ:AS) (a:Nat) (me n st br bn fr nx:Int) (X A O:AV) (x:Int) (hp s:List AObj) (hlen:env.length=135) (hcx:cx.esc= []) (f0:Env.get env 0= .ptr (.hp a) 0) (f11:Env.get env 11= .int .i64 x) (hX1:X.one=true) (hA1:A.one=true) (hO1:O.one=true) (hσ:σ=⟨hp,s⟩) (hro0:cx.ro=none) (hA:(AS.mk hp s).get (.hp a)=some (.cells [.int .i64 me, .int .i64 n, .int .i64 st, .int .u64 br, .int .i64 bn, .int .i64 fr,X,A,O, .int .i64 nx])) (hw:wr .i64 (x+1)=x+1):
  Pc Try.prog how cx [] 135 [112,113,114,115,116] (cr [.r, .r, .r, .r, .r, .r, .r, .l, .r, .i, .i, .r, .l, .i, .r, .l, .r, .l]) env σ (.normal) (AS.mk (hp.set a (.cells [.int .i64 me, .int .i64 n, .int .i64 st, .int .u64 br, .int .i64 bn, .int .i64 fr,X,A,O, .int .i64 (x+1)])) s) (fun _=>True):=by
 refine pc_of fun res hr=>?_
 simp -implicitDefEqProofs [AS.get_push_at,AS.get_push_old,AS.push_len,AS.set_st_len,AS.next_st',AS.set_push_at,AS.get_set_self,AS.get_set_other,cr,Try.f11,hlen,hcx,f0,f11,hX1,hA1,hO1,hσ,hro0,hA,hw,AS.set,wok] at hr
 subst hr
 refine ⟨_,rfl,by simp[hlen],by simp[Env.get_set,hlen,f0,f11,hX1,hA1,hO1,hσ,hro0,hA,hw,AS.set,wok],fun i hi=>?_⟩
 simp only[List.mem_cons,List.not_mem_nil,or_false,not_or] at hi
 simp only[putE,get_set2,hi,false_and,if_false]
theorem r20 (cx:Cx) (env:Env) (σ:AS) (a:Nat) (me n st br bn fr nx:Int) (X A O:AV) (x:Int) (hlen:env.length=135) (hcx:cx.esc= []) (f0:Env.get env 0= .ptr (.hp a) 0) (f11:Env.get env 11= .int .i64 x) (hX1:X.one=true) (hA1:A.one=true) (hO1:O.one=true) (hA:σ.get (.hp a)=some (.cells [.int .i64 me, .int .i64 n, .int .i64 st, .int .u64 br, .int .i64 bn, .int .i64 fr,X,A,O, .int .i64 nx])):
  Pc Try.prog how cx [] 135 [117,118,119,120,121,122] (cr [.r, .r, .r, .r, .r, .r, .r, .l, .r, .i, .i, .r, .l, .i, .r, .r, .l]) env σ (.normal) (σ) (fun env'=>Env.get env' 122= .bool (decide (x<nx))):=by
 refine pc_of fun res hr=>?_
 simp -implicitDefEqProofs [AS.get_push_at,AS.get_push_old,AS.push_len,AS.set_st_len,AS.next_st',AS.set_push_at,AS.get_set_self,AS.get_set_other,cr,Try.f11,hlen,hcx,f0,f11,hX1,hA1,hO1,hA] at hr
 subst hr
 refine ⟨_,rfl,by simp[hlen],by simp[Env.get_set,hlen,f0,f11,hX1,hA1,hO1,hA],fun i hi=>?_⟩
 simp only[List.mem_cons,List.not_mem_nil,or_false,not_or] at hi
 simp only[putE,get_set2,hi,false_and,if_false]
theorem r21 (cx:Cx) (env:Env) (σ:AS) (a:Nat) (me n st br bn fr nx:Int) (X A O:AV) (x:Int) (v:ByteArray) (R:AV) (st1 hp2 st2:List AObj) (hp s:List AObj) (hlen:env.length=135) (hcx:cx.esc= []) (f0:Env.get env 0= .ptr (.hp a) 0) (f11:Env.get env 11= .int .i64 x) (f12:Env.get env 12= .str v) (hX1:X.one=true) (hA1:A.one=true) (hO1:O.one=true) (hσ:σ=⟨hp,s⟩) (hA: ∀s,(AS.mk hp s).get (.hp a)=some (.cells [.int .i64 me, .int .i64 n, .int .i64 st, .int .u64 br, .int .i64 bn, .int .i64 fr,X,A,O, .int .i64 nx])) (hz: ∀σ,fzL cx.ro σ [.int .i64 x, .str v]=some ([.int .i64 x, .str v],σ)) (hap:appendA Try.prog cx ⟨hp,s++ [.row [.agg [.int .i64 x, .str v]] 2 0 false]⟩ [40,40] (.row (.st s.length) 0 0 1) O=some (R,⟨hp,st1⟩)) (hst:storeA Try.prog cx ⟨hp,st1⟩ 40 (.ptr (.hp a) 8) R=some ⟨hp2,st2⟩):
  Pc Try.prog how cx [] 135 [123,124,125,126,127,128,129,130,131,132,133,134] (cr [.r, .r, .r, .r, .r, .r, .r, .l, .r, .i, .i, .r, .l, .i, .r, .r, .r, .l]) env σ (.normal) (AS.mk hp2 st2) (fun _=>True):=by
 refine pc_of fun res hr=>?_
 simp -implicitDefEqProofs [-fzL,-storeA,AS.get_push_at,AS.get_push_old,AS.push_len,AS.set_st_len,AS.next_st',AS.set_push_at,AS.get_set_self,AS.get_set_other,cr,Try.f11,hlen,hcx,f0,f11,f12,hX1,hA1,hO1,hσ,hA,hz,hap,hst,elemA] at hr
 subst hr
 refine ⟨_,rfl,by simp[hlen],by simp[Env.get_set,hlen,f0,f11,f12,hX1,hA1,hO1,hσ,hA,hz,hap,hst,elemA],fun i hi=>?_⟩
 simp only[List.mem_cons,List.not_mem_nil,or_false,not_or] at hi
 simp only[putE,get_set2,hi,false_and,if_false]
theorem r16 (cx:Cx) (env:Env) (σ:AS) (x:Int) (hlen:env.length=135) (hcx:cx.esc= []) (f11:Env.get env 11= .int .i64 x) (hw:wr .i64 (x - 1)=x - 1):
  Pc Try.prog how cx [] 135 [11,92,93] (cr [.r, .r, .r, .r, .r, .r, .r, .l, .r, .i, .i, .r, .r]) env σ (.normal) (σ) (fun env'=>Env.get env' 11= .int .i64 (x - 1)):=by
 refine pc_of fun res hr=>?_
 simp -implicitDefEqProofs [AS.get_push_at,AS.get_push_old,AS.push_len,AS.set_st_len,AS.next_st',AS.set_push_at,AS.get_set_self,AS.get_set_other,cr,Try.f11,hlen,hcx,f11,hw] at hr
 subst hr
 refine ⟨_,rfl,by simp[hlen],by simp[Env.get_set,hlen,f11,hw],fun i hi=>?_⟩
 simp only[List.mem_cons,List.not_mem_nil,or_false,not_or] at hi
 simp only[putE,get_set2,hi,false_and,if_false]
theorem r22 (cx:Cx) (env:Env) (σ:AS) (hlen:env.length=135) (hcx:cx.esc= []):
  Pc Try.prog how cx [] 135 [8] (cr [.r, .r, .r, .r, .r, .r, .r, .r, .l]) env σ (.normal) (σ) (fun env'=>Env.get env' 8= .bool true):=by
 refine pc_of fun res hr=>?_
 simp -implicitDefEqProofs [AS.get_push_at,AS.get_push_old,AS.push_len,AS.set_st_len,AS.next_st',AS.set_push_at,AS.get_set_self,AS.get_set_other,cr,Try.f11,hlen,hcx] at hr
 subst hr
 refine ⟨_,rfl,by simp[hlen],by simp[Env.get_set,hlen],fun i hi=>?_⟩
 simp only[List.mem_cons,List.not_mem_nil,or_false,not_or] at hi
 simp only[putE,get_set2,hi,false_and,if_false]
end
noncomputable def bodyC:Code:=(.seq (cr [.l]) (.seq (.seq (cr [.r, .l, .l]) (.cond (.tmp 38) (.seq (cr [.r, .l, .r, .l, .l]) .ret) .skip)) (.seq (.seq (cr [.r, .r, .l, .l]) (cr [.r, .r, .l, .r])) (.seq (cr [.r, .r, .r, .l]) (.seq (.seq (cr [.r, .r, .r, .r, .l, .l]) (.cond (.tmp 75) (.seq (cr [.r, .r, .r, .r, .l, .r, .l, .l]) .ret) .skip)) (.seq (cr [.r, .r, .r, .r, .r, .l]) (.seq (cr [.r, .r, .r, .r, .r, .r, .l]) (.seq (.seq (cr [.r, .r, .r, .r, .r, .r, .r, .l, .l]) (cr [.r, .r, .r, .r, .r, .r, .r, .l, .r])) (.seq (cr [.r, .r, .r, .r, .r, .r, .r, .r, .l]) .ret)))))))))
theorem body:Try.f11.body=some bodyC:=by kernel_rfl
def Ja (h:Nat) (σ0:AS) (a:Nat) (node:Int) (Y X:AV) (P:List (Int×List Vt)) (k:Nat) (env:Env) (σ:AS):Prop:=
 Env.get env 0= .ptr (.hp a) 0∧Env.get env 1= .int .i64 node∧Env.get env 3=Y∧Env.get env 42=X∧(anyN node (P.take k)=false)∧Outside h σ0 σ
def Exa (h:Nat) (σ0:AS) (a:Nat) (node:Int) (Y X:AV) (P:List (Int×List Vt)) (e:AExit) (env:Env) (σ:AS):Prop:=e= .ret∧env.length=135∧Env.get env 8= .bool false∧Outside h σ0 σ∧anyN node P=true
theorem Ja_stable {h:Nat} {σ0:AS} {a:Nat} {node:Int} {Y X:AV} {P:List (Int×List Vt)}: ∀k env env' σ,env.length=135→env'.length=135→(∀i,i≠45→i≠52→i≠44→Env.get env' i=Env.get env i)→Ja h σ0 a node Y X P k env σ→Ja h σ0 a node Y X P k env' σ:=by
 rintro k env env' σ _ _ hf ⟨j0,j1,j3,j42,q0,ho⟩
 exact ⟨(hf 0 (by decide) (by decide) (by decide)).trans j0,(hf 1 (by decide) (by decide) (by decide)).trans j1,(hf 3 (by decide) (by decide) (by decide)).trans j3,(hf 42 (by decide) (by decide) (by decide)).trans j42,q0,ho⟩
noncomputable def oTa:Oper:=(opsOf (cr [.r, .r, .l, .r, .i, .i, .l])).headD default
noncomputable def oIa:List Oper:=opsOf (cr [.r, .r, .l, .r, .i, .i, .r, .r, .r])
theorem loop_eqa:(cr [.r, .r, .l, .r])= .block 0 (.loop (.seq (.region 4 #[oTa] false) (.seq (.cond (.tmp 45) .skip (.exit 0)) (.seq (.block 1 (.seq (cr [.r, .r, .l, .r, .i, .i, .r, .r, .l, .i, .l]) (.seq (cr [.r, .r, .l, .r, .i, .i, .r, .r, .l, .i, .r, .l]) (.cond (.tmp 51) (.seq (cr [.r, .r, .l, .r, .i, .i, .r, .r, .l, .i, .r, .r, .l, .l]) .ret) .skip)))) (.region 8 #[oIa.headD default,(oIa.drop 1).headD default] false))))):=by kernel_rfl
theorem stepa (cx:Cx) (hcx:cx.esc= []) (hro: ∀k,cx.ro=some k→k≤cx.h) (σ0:AS) (a:Nat) (node:Int) (Y X:AV) (P:List (Int×List Vt)) (hX: ∀st,Rd Try.prog ⟨σ0.hp,st⟩ 38 91 X (P.map encPm)):
  ∀k env σ,k<P.length→env.length=135→Env.get env 44= .int .i64 (k:Int)→Env.get env 43= .int .i64 ((P.length:Nat):Int)→Ja cx.h σ0 a node Y X P k env σ→ ∃e env' σ',execW Try.prog cx [] (callW Try.prog how) (.block 1 (.seq (cr [.r, .r, .l, .r, .i, .i, .r, .r, .l, .i, .l]) (.seq (cr [.r, .r, .l, .r, .i, .i, .r, .r, .l, .i, .r, .l]) (.cond (.tmp 51) (.seq (cr [.r, .r, .l, .r, .i, .i, .r, .r, .l, .i, .r, .r, .l, .l]) .ret) .skip)))) (env,σ)=some (e,(env',σ'))∧
   ((e= .normal∧env'.length=135∧Env.get env' 44= .int .i64 (k:Int)∧Env.get env' 43= .int .i64 ((P.length:Nat):Int)∧Ja cx.h σ0 a node Y X P (k+1) env' σ')∨(e≠ .normal∧Exa cx.h σ0 a node Y X P e env' σ')):=by
 rintro k env σ hk hlen f44 f43 ⟨f0,f1,f3,f42,q0,ho⟩
 have hXσ:Rd Try.prog σ 38 91 X (P.map encPm):=by have:=hX σ.st; rw[←ho.1] at this; exact this
 obtain ⟨pp,hia,hpa⟩:=hXσ.2 k (encPm P[k]) (get_el hk)
 obtain ⟨env1,x1a,x1b,x1c,x1d⟩:=rE cx env σ k _ pp ((slV 4 (P[k].2.map encVt))) (P[k].1) hlen hcx f42 f44 hia hpa slV_plain (wokst hro ho.2.2) ho.2.2
 have f0:=(x1d 0 (by decide)).trans f0
 have f1:=(x1d 1 (by decide)).trans f1
 have f3:=(x1d 3 (by decide)).trans f3
 have f42:=(x1d 42 (by decide)).trans f42
 have f43:=(x1d 43 (by decide)).trans f43
 have f44:=(x1d 44 (by decide)).trans f44
 have f10:=x1c
 have g1:((σ:AS).push false (.cells [.int .i64 P[k].1,(slV 4 (P[k].2.map encVt))])).get (.st (σ:AS).st.length)=some (.cells [.int .i64 P[k].1,(slV 4 (P[k].2.map encVt))]):=AS.get_push_at rfl
 have ho:=ho.push (ob:= .cells [.int .i64 P[k].1,(slV 4 (P[k].2.map encVt))])
 generalize hib1:(σ:AS).st.length=ib1 at g1 f10
 generalize (σ:AS).push false (.cells [.int .i64 P[k].1,(slV 4 (P[k].2.map encVt))])=σ1 at x1a g1 ho
 obtain ⟨env2,x2a,x2b,x2c,x2d⟩:=rF cx env1 σ1 _ _ _ node x1b hcx f1 f10 g1
 have f0:=(x2d 0 (by decide)).trans f0
 have f1:=(x2d 1 (by decide)).trans f1
 have f3:=(x2d 3 (by decide)).trans f3
 have f10:=(x2d 10 (by decide)).trans f10
 have f42:=(x2d 42 (by decide)).trans f42
 have f43:=(x2d 43 (by decide)).trans f43
 have f44:=(x2d 44 (by decide)).trans f44
 have f51:=x2c
 have ev1:=ev_tmp f51
 have hs:=anyN_succ (node:=node) hk
 by_cases q:P[k].1=node
 case pos=>
  rw[decide_eq_true q] at ev1
  obtain ⟨env3,x3a,x3b,x3c,x3d⟩:=rG cx env2 σ1 x2b hcx
  have f0:=(x3d 0 (by decide)).trans f0
  have f1:=(x3d 1 (by decide)).trans f1
  have f3:=(x3d 3 (by decide)).trans f3
  have f10:=(x3d 10 (by decide)).trans f10
  have f42:=(x3d 42 (by decide)).trans f42
  have f43:=(x3d 43 (by decide)).trans f43
  have f44:=(x3d 44 (by decide)).trans f44
  have f51:=(x3d 51 (by decide)).trans f51
  have f8:=x3c
  exact ⟨.ret,env3,_,(block_exit (execW_seq_of x1a (execW_seq_of x2a (execW_cond_t ev1 (execW_seq_of x3a (by rfl))))) (by simp)), .inr ⟨by simp,rfl,x3b,f8,ho,anyN_at hk q⟩⟩
 rw[decide_eq_false q] at ev1
 rw[decide_eq_false q,Bool.or_false] at hs
 exact ⟨.normal,env2,_,(execW_block_of (execW_seq_of x1a (execW_seq_of x2a (execW_cond_f ev1 (by rfl))))), .inl ⟨rfl,x2b,f44,f43,f0,f1,f3,f42,(by rw[hs]; exact q0),ho⟩⟩
theorem loopa (cx:Cx) (hcx:cx.esc= []) (hro: ∀k,cx.ro=some k→k≤cx.h) (σ0:AS) (a:Nat) (node:Int) (Y X:AV) (P:List (Int×List Vt)) (hX: ∀st,Rd Try.prog ⟨σ0.hp,st⟩ 38 91 X (P.map encPm)) (hnn:P.length≤9223372036854775807) {env:Env} {σ:AS} (hl:env.length=135) (h1:Env.get env 44= .int .i64 0) (h2:Env.get env 43= .int .i64 ((P.length:Nat):Int)) (h0:Ja cx.h σ0 a node Y X P 0 env σ):
  ∃e env' σ',execW Try.prog cx [] (callW Try.prog how) (cr [.r, .r, .l, .r]) (env,σ)=some (e,(env',σ'))∧((e= .normal∧((env'.length=135∧Ja cx.h σ0 a node Y X P (P.length) env' σ')∨Exa cx.h σ0 a node Y X P (.exit 0) env' σ'))∨(e≠ .normal∧e≠ .exit 0∧Exa cx.h σ0 a node Y X P e env' σ')):=by
 rw[loop_eqa]
 exact range_std (Ex:=Exa cx.h σ0 a node Y X P) (N:=135) (tc:=45) (ti:=44) (tl:=43) (tx:=52) (ty1:=3) (ty2:=3) (ty3:=3) (ty4:=3) ⟨by kernel_rfl,by kernel_rfl,by kernel_rfl⟩ ⟨by kernel_rfl,by kernel_rfl,by kernel_rfl⟩ ⟨by kernel_rfl,by kernel_rfl,by kernel_rfl⟩ (by decide) hnn Ja_stable (stepa cx hcx hro σ0 a node Y X P hX) hl h1 h2 h0
def Jb (h:Nat) (σ0:AS) (a:Nat) (me n:Int) (r:Rv) (X A:AV) (G1 G2 G3:List Nat) (k:Nat) (env:Env) (σ:AS):Prop:=
 env.length=135∧Env.get env 0= .ptr (.hp a) 0∧Env.get env 11= .int .i64 (399 - (k:Int))∧σ.st.take h=σ0.st.take h∧h≤σ.st.length∧ ∃O F3,RLd σ.hp a me n (rkS r k) X A O G1 G2 F3∧Kp σ0.hp σ.hp (a :: G3)∧ ∀i∈F3,i∈G3∨σ0.hp.length≤i
def Exb (h:Nat) (σ0:AS) (a:Nat) (me n:Int) (r:Rv) (X A:AV) (G1 G2 G3:List Nat) (e:AExit) (env:Env) (σ:AS):Prop:=False
noncomputable def lpb:Code:=(.seq (.seq (cr [.r, .r, .r, .r, .r, .r, .r, .l, .r, .i, .i, .l, .l]) (cr [.r, .r, .r, .r, .r, .r, .r, .l, .r, .i, .i, .l, .r])) (.seq (.block 3 (.seq (cr [.r, .r, .r, .r, .r, .r, .r, .l, .r, .i, .i, .r, .l, .i, .l]) (.seq (.seq (cr [.r, .r, .r, .r, .r, .r, .r, .l, .r, .i, .i, .r, .l, .i, .r, .l, .l]) (.cond (.tmp 111) (cr [.r, .r, .r, .r, .r, .r, .r, .l, .r, .i, .i, .r, .l, .i, .r, .l, .r, .l]) .skip)) (.seq (cr [.r, .r, .r, .r, .r, .r, .r, .l, .r, .i, .i, .r, .l, .i, .r, .r, .l]) (.cond (.tmp 122) (cr [.r, .r, .r, .r, .r, .r, .r, .l, .r, .i, .i, .r, .l, .i, .r, .r, .r, .l]) .skip))))) (cr [.r, .r, .r, .r, .r, .r, .r, .l, .r, .i, .i, .r, .r])))
theorem lp_eqb:(cr [.r, .r, .r, .r, .r, .r, .r, .l, .r])= .block 2 (.loop lpb):=by kernel_rfl
theorem stepb (cx:Cx) (hcx:cx.esc= []) (hro: ∀k,cx.ro=some k→k≤cx.h) (σ0:AS) (a:Nat) (me n:Int) (r:Rv) (X A:AV) (G1 G2 G3:List Nat) (hro2:cx.ro=none) (hfr:0≤r.fr∧r.fr≤400) (hvl: ∀p∈r.P,p.2.length≤1000) (hPl:r.P.length≤1000):
  ∀k env σ,k<(400 - r.fr).toNat→Jb cx.h σ0 a me n r X A G1 G2 G3 k env σ→ ∃e env' σ',execW Try.prog cx [] (callW Try.prog how) lpb (env,σ)=some (e,(env',σ'))∧((e= .normal∧Jb cx.h σ0 a me n r X A G1 G2 G3 (k+1) env' σ')∨(e≠ .normal∧((e= .exit 2∧Jb cx.h σ0 a me n r X A G1 G2 G3 ((400 - r.fr).toNat) env' σ')∨Exb cx.h σ0 a me n r X A G1 G2 G3 e env' σ'))):=by
 rintro k env σ hk ⟨hlen,f0,f11,ho⟩
 unfold lpb
 obtain ⟨u1,u2,O,F3,hR,hK,hF⟩:=ho
 obtain ⟨hp1,s1⟩:=σ
 simp only at u1 u2 hR hK
 have o1:=hR.hX.one; have o2:=hR.hA.one; have o3:=hR.hO.one
 have hkk:r.fr+(k:Int)<400:=by omega
 obtain ⟨env1,x1a,x1b,x1c,x1d⟩:=r15 cx env (AS.mk hp1 s1) a me n ((rkS r k).st) ((rkS r k).br) ((rkS r k).bn) ((rkS r k).fr) ((rkS r k).nx) X A O _ hlen hcx f0 f11 o1 o2 o3 hR.oB
 have f0:=(x1d 0 (by decide)).trans f0
 have f11:=(x1d 11 (by decide)).trans f11
 have f91:=x1c
 have ev1:=ev_tmp f91
 rw[decide_eq_true (show (rkS r k).fr≤399 - (k:Int) by show r.fr≤_; omega)] at ev1
 have k1:=RVal.ok hp1 s1 a me n (399 - (k:Int)) (rkS r k) X A O hR.oB o1 (fun st=>rdPm hR.hX st) hvl hPl
 obtain ⟨env2,x2a,x2b,x2c,x2d⟩:=r17 cx env1 (AS.mk hp1 s1) a _ _ _ x1b hcx f0 f11 (by rw[hro2]; exact k1)
 have f0:=(x2d 0 (by decide)).trans f0
 have f11:=(x2d 11 (by decide)).trans f11
 have f91:=(x2d 91 (by decide)).trans f91
 have f12:=x2c.1
 have f13:=x2c.2
 obtain ⟨env3,x3a,x3b,x3c,x3d⟩:=r18 cx env2 (AS.mk hp1 s1) a me n ((rkS r k).st) ((rkS r k).br) ((rkS r k).bn) ((rkS r k).fr) ((rkS r k).nx) X A O _ hp1 s1 x2b hcx f0 f13 o1 o2 o3 rfl hR.oB
 have f0:=(x3d 0 (by decide)).trans f0
 have f11:=(x3d 11 (by decide)).trans f11
 have f12:=(x3d 12 (by decide)).trans f12
 have f13:=(x3d 13 (by decide)).trans f13
 have f91:=(x3d 91 (by decide)).trans f91
 have f111:=x3c
 have ev2:=ev_tmp f111
 obtain ⟨w1,w2,w3⟩:=rows_step r.P r.fr k hkk
 have hl1:=at_lt2 hR.oB
 have hmid: ∀hp2,hp2[a]?=some (.cells (cellsR me n {rkS r k with nx:=topK r.P r.fr (k+1)} X A O))→Kp hp1 hp2 [a]→RLd hp2 a me n {rkS r k with nx:=topK r.P r.fr (k+1)} X A O G1 G2 F3:=fun hp2 h1 h2=>{
   oB:=h1
   hX:=hR.hX.keep h2 fun i hi=>by rw[List.mem_singleton]; exact fun e=>hR.n1 (by rw[←e]; exact hi)
   hA:=hR.hA.keep h2 fun i hi=>by rw[List.mem_singleton]; exact fun e=>hR.n2 (by rw[←e]; exact hi)
   hO:=hR.hO.keep h2 fun i hi=>by rw[List.mem_singleton]; exact fun e=>hR.n3 (by rw[←e]; exact hi)
   n1:=hR.n1
   n2:=hR.n2
   n3:=hR.n3
   d12:=hR.d12
   d13:=hR.d13
   d23:=hR.d23}
 have hup: ∀hp2,Kp hp1 hp2 [a]→Kp σ0.hp hp2 (a :: G3):=fun hp2 h2=>hK.trans (h2.mono fun i hi=> .inl (by rw[List.mem_singleton] at hi; rw[hi]; exact List.mem_cons_self ..))
 have hln:hp1.length≥σ0.hp.length:=hK.1
 cases q:((valueF r.P (399 - (k:Int))).isSome && decide (topK r.P r.fr k=r.fr)) with
 | true=>
  have ev2:=ev2.trans (congrArg (fun b=>some (AV.bool b)) q)
  have ht:=topK_yes q
  have hset:hp1.set a (.cells [.int .i64 me, .int .i64 n, .int .i64 (rkS r k).st, .int .u64 (rkS r k).br, .int .i64 (rkS r k).bn, .int .i64 (rkS r k).fr,X,A,O, .int .i64 (399 - (k:Int)+1)])=(hp1.set a (.cells (cellsR me n {rkS r k with nx:=topK r.P r.fr (k+1)} X A O))):=by rw[ht]; rfl
  obtain ⟨env4,x4a,x4b,x4c,x4d⟩:=r19 cx env3 (AS.mk hp1 s1) a me n ((rkS r k).st) ((rkS r k).br) ((rkS r k).bn) ((rkS r k).fr) ((rkS r k).nx) X A O _ hp1 s1 x3b hcx f0 f11 o1 o2 o3 rfl hro2 hR.oB (wr_ok (by omega) (by omega))
  have f0:=(x4d 0 (by decide)).trans f0
  have f11:=(x4d 11 (by decide)).trans f11
  have f12:=(x4d 12 (by decide)).trans f12
  have f13:=(x4d 13 (by decide)).trans f13
  have f91:=(x4d 91 (by decide)).trans f91
  have f111:=(x4d 111 (by decide)).trans f111
  rw[hset] at x4a
  have hM:=hmid (hp1.set a (.cells (cellsR me n {rkS r k with nx:=topK r.P r.fr (k+1)} X A O))) (List.getElem?_set_self hl1) (Kp.set hp1 a _ _ (List.mem_singleton_self _))
  have hkk2:=(Kp.set hp1 a (.cells (cellsR me n {rkS r k with nx:=topK r.P r.fr (k+1)} X A O)) [a] (List.mem_singleton_self _))
  obtain ⟨env5,x5a,x5b,x5c,x5d⟩:=r20 cx env4 (AS.mk (hp1.set a (.cells (cellsR me n {rkS r k with nx:=topK r.P r.fr (k+1)} X A O))) s1) a me n (({rkS r k with nx:=topK r.P r.fr (k+1)}:Rv).st) (({rkS r k with nx:=topK r.P r.fr (k+1)}:Rv).br) (({rkS r k with nx:=topK r.P r.fr (k+1)}:Rv).bn) (({rkS r k with nx:=topK r.P r.fr (k+1)}:Rv).fr) (({rkS r k with nx:=topK r.P r.fr (k+1)}:Rv).nx) X A O _ x4b hcx f0 f11 o1 o2 o3 hM.oB
  have f0:=(x5d 0 (by decide)).trans f0
  have f11:=(x5d 11 (by decide)).trans f11
  have f12:=(x5d 12 (by decide)).trans f12
  have f13:=(x5d 13 (by decide)).trans f13
  have f91:=(x5d 91 (by decide)).trans f91
  have f111:=(x5d 111 (by decide)).trans f111
  have f122:=x5c
  have ev3:=ev_tmp f122
  by_cases q3:399 - (k:Int)<topK r.P r.fr (k+1)
  case pos=>
   have ev3:=ev3.trans (congrArg (fun b=>some (AV.bool b)) (decide_eq_true q3))
   have hz: ∀σ,fzL cx.ro σ [.int .i64 (399 - (k:Int)), .str ((valueF r.P (399 - (k:Int))).getD zeroVt).v]=some ([.int .i64 (399 - (k:Int)), .str ((valueF r.P (399 - (k:Int))).getD zeroVt).v],σ):=fun σ=>by simp[fzL]
   have hrl:(({rkS r k with nx:=topK r.P r.fr (k+1)}:Rv).op.map encRw).length≤1000:=by
    show ((rowsR r.P (400 - (k:Int)) (topK r.P r.fr k)).map encRw).length≤1000
    have h1:topK r.P r.fr k≤400:=by
     rcases topK_is r.P r.fr k (by omega) with h | h
     ·rw[h.1]; exact hfr.2
     ·exact h.2.2.1
    rw[List.length_map]
    unfold rowsR
    rw[List.length_map,List.length_range]
    omega
   obtain ⟨R,st1,hp3,st3,z1,z2,z3,z4,z5,z6,O3,z7,z8⟩:=heap_prepend (cx:=cx) (st:=s1++ [.row [encRw (399 - (k:Int),((valueF r.P (399 - (k:Int))).getD zeroVt).v)] 2 0 false]) (k:=s1.length) (x:=encRw (399 - (k:Int),((valueF r.P (399 - (k:Int))).getD zeroVt).v)) appO s40 hro2 hM.hO (by simp) hrl (by decide) hM.oB (o:=8) (by simp[cellsR])
   obtain ⟨env6,x6a,x6b,x6c,x6d⟩:=r21 cx env5 (AS.mk (hp1.set a (.cells (cellsR me n {rkS r k with nx:=topK r.P r.fr (k+1)} X A O))) s1) a me n (({rkS r k with nx:=topK r.P r.fr (k+1)}:Rv).st) (({rkS r k with nx:=topK r.P r.fr (k+1)}:Rv).br) (({rkS r k with nx:=topK r.P r.fr (k+1)}:Rv).bn) (({rkS r k with nx:=topK r.P r.fr (k+1)}:Rv).fr) (({rkS r k with nx:=topK r.P r.fr (k+1)}:Rv).nx) X A O _ _ R st1 hp3 st3 ((hp1.set a (.cells (cellsR me n {rkS r k with nx:=topK r.P r.fr (k+1)} X A O)))) s1 x5b hcx f0 f11 f12 o1 o2 o3 rfl (fun _=>hM.oB) hz z1 z2
   have f0:=(x6d 0 (by decide)).trans f0
   have f11:=(x6d 11 (by decide)).trans f11
   have f12:=(x6d 12 (by decide)).trans f12
   have f13:=(x6d 13 (by decide)).trans f13
   have f91:=(x6d 91 (by decide)).trans f91
   have f111:=(x6d 111 (by decide)).trans f111
   have f122:=(x6d 122 (by decide)).trans f122
   obtain ⟨env7,x7a,x7b,x7c,x7d⟩:=r16 cx env6 (AS.mk hp3 st3) _ x6b hcx f11 (wr_ok (by omega) (by omega))
   have f0:=(x7d 0 (by decide)).trans f0
   have f12:=(x7d 12 (by decide)).trans f12
   have f13:=(x7d 13 (by decide)).trans f13
   have f91:=(x7d 91 (by decide)).trans f91
   have f111:=(x7d 111 (by decide)).trans f111
   have f122:=(x7d 122 (by decide)).trans f122
   have f11:=x7c
   have hl2:hp1.length≤((hp1.set a (.cells (cellsR me n {rkS r k with nx:=topK r.P r.fr (k+1)} X A O)))).length:=hkk2.1
   have hR3:RLd hp3 a me n (rkS r (k+1)) X A O3 G1 G2 [((hp1.set a (.cells (cellsR me n {rkS r k with nx:=topK r.P r.fr (k+1)} X A O)))).length]:={
     oB:=z7
     hX:=hM.hX.keep z6 fun i hi=>by rw[List.mem_singleton]; exact fun e=>hR.n1 (by rw[←e]; exact hi)
     hA:=hM.hA.keep z6 fun i hi=>by rw[List.mem_singleton]; exact fun e=>hR.n2 (by rw[←e]; exact hi)
     hO:=by
      have e:(rkS r (k+1)).op=(399 - (k:Int),((valueF r.P (399 - (k:Int))).getD zeroVt).v)::({rkS r k with nx:=topK r.P r.fr (k+1)}:Rv).op:=by
       show rowsR r.P (400 - ((k+1:Nat):Int)) (topK r.P r.fr (k+1))=_ :: rowsR r.P (400 - (k:Int)) (topK r.P r.fr k)
       rw[w2 q3,w1]
      rw[e,List.map_cons]
      exact z8
     n1:=hR.n1
     n2:=hR.n2
     n3:=by rw[List.mem_singleton]; omega
     d12:=hR.d12
     d13:=fun i hi=>by rw[List.mem_singleton]; have:=hR.hX.lt i hi; omega
     d23:=fun i hi=>by rw[List.mem_singleton]; have:=hR.hA.lt i hi; omega}
   have ht3:st3.take cx.h=σ0.st.take cx.h:=by
    have e1:st3.take cx.h=(st3.take s1.length).take cx.h:=by rw[List.take_take,Nat.min_eq_left u2]
    rw[e1,z4,List.take_append_of_le_length (Nat.le_refl _),List.take_length]
    exact u1
   have hs3:cx.h≤st3.length:=by rw[z5]; simp; omega
   exact ⟨.normal,env7,_,(execW_seq_of (execW_seq_of x1a (execW_cond_t ev1 (by rfl))) (execW_seq_of (execW_block_of (execW_seq_of x2a (execW_seq_of (execW_seq_of x3a (execW_cond_t ev2 x4a)) (execW_seq_of x5a (execW_cond_t ev3 x6a))))) x7a)), .inl ⟨rfl,x7b,f0,(by rw[f11]; congr 1; omega),⟨ht3,hs3,O3,_,hR3,hup _ (hkk2.trans z6),fun i hi=> .inr (by rw[List.mem_singleton] at hi; omega)⟩⟩⟩
  have ev3:=ev3.trans (congrArg (fun b=>some (AV.bool b)) (decide_eq_false q3))
  obtain ⟨env6,x6a,x6b,x6c,x6d⟩:=r16 cx env5 (AS.mk (hp1.set a (.cells (cellsR me n {rkS r k with nx:=topK r.P r.fr (k+1)} X A O))) s1) _ x5b hcx f11 (wr_ok (by omega) (by omega))
  have f0:=(x6d 0 (by decide)).trans f0
  have f12:=(x6d 12 (by decide)).trans f12
  have f13:=(x6d 13 (by decide)).trans f13
  have f91:=(x6d 91 (by decide)).trans f91
  have f111:=(x6d 111 (by decide)).trans f111
  have f122:=(x6d 122 (by decide)).trans f122
  have f11:=x6c
  have hR3:RLd ((hp1.set a (.cells (cellsR me n {rkS r k with nx:=topK r.P r.fr (k+1)} X A O)))) a me n (rkS r (k+1)) X A O G1 G2 F3:=by
   have e:rkS r (k+1)={rkS r k with nx:=topK r.P r.fr (k+1)}:=by
    unfold rkS
    simp only
    rw[w3 q3,w1]
   rw[e]
   exact hM
  exact ⟨.normal,env6,_,(execW_seq_of (execW_seq_of x1a (execW_cond_t ev1 (by rfl))) (execW_seq_of (execW_block_of (execW_seq_of x2a (execW_seq_of (execW_seq_of x3a (execW_cond_t ev2 x4a)) (execW_seq_of x5a (execW_cond_f ev3 (by rfl)))))) x6a)), .inl ⟨rfl,x6b,f0,(by rw[f11]; congr 1; omega),⟨u1,u2,O,F3,hR3,hup _ hkk2,hF⟩⟩⟩
 | false=>
  have ev2:=ev2.trans (congrArg (fun b=>some (AV.bool b)) q)
  have ht:=topK_no q
  have hM:=hmid hp1 (by rw[ht]; exact hR.oB) (Kp.refl _ _)
  have hkk2:=(Kp.refl hp1 [a])
  obtain ⟨env4,x4a,x4b,x4c,x4d⟩:=r20 cx env3 (AS.mk hp1 s1) a me n (({rkS r k with nx:=topK r.P r.fr (k+1)}:Rv).st) (({rkS r k with nx:=topK r.P r.fr (k+1)}:Rv).br) (({rkS r k with nx:=topK r.P r.fr (k+1)}:Rv).bn) (({rkS r k with nx:=topK r.P r.fr (k+1)}:Rv).fr) (({rkS r k with nx:=topK r.P r.fr (k+1)}:Rv).nx) X A O _ x3b hcx f0 f11 o1 o2 o3 hM.oB
  have f0:=(x4d 0 (by decide)).trans f0
  have f11:=(x4d 11 (by decide)).trans f11
  have f12:=(x4d 12 (by decide)).trans f12
  have f13:=(x4d 13 (by decide)).trans f13
  have f91:=(x4d 91 (by decide)).trans f91
  have f111:=(x4d 111 (by decide)).trans f111
  have f122:=x4c
  have ev3:=ev_tmp f122
  by_cases q3:399 - (k:Int)<topK r.P r.fr (k+1)
  case pos=>
   have ev3:=ev3.trans (congrArg (fun b=>some (AV.bool b)) (decide_eq_true q3))
   have hz: ∀σ,fzL cx.ro σ [.int .i64 (399 - (k:Int)), .str ((valueF r.P (399 - (k:Int))).getD zeroVt).v]=some ([.int .i64 (399 - (k:Int)), .str ((valueF r.P (399 - (k:Int))).getD zeroVt).v],σ):=fun σ=>by simp[fzL]
   have hrl:(({rkS r k with nx:=topK r.P r.fr (k+1)}:Rv).op.map encRw).length≤1000:=by
    show ((rowsR r.P (400 - (k:Int)) (topK r.P r.fr k)).map encRw).length≤1000
    have h1:topK r.P r.fr k≤400:=by
     rcases topK_is r.P r.fr k (by omega) with h | h
     ·rw[h.1]; exact hfr.2
     ·exact h.2.2.1
    rw[List.length_map]
    unfold rowsR
    rw[List.length_map,List.length_range]
    omega
   obtain ⟨R,st1,hp3,st3,z1,z2,z3,z4,z5,z6,O3,z7,z8⟩:=heap_prepend (cx:=cx) (st:=s1++ [.row [encRw (399 - (k:Int),((valueF r.P (399 - (k:Int))).getD zeroVt).v)] 2 0 false]) (k:=s1.length) (x:=encRw (399 - (k:Int),((valueF r.P (399 - (k:Int))).getD zeroVt).v)) appO s40 hro2 hM.hO (by simp) hrl (by decide) hM.oB (o:=8) (by simp[cellsR])
   obtain ⟨env5,x5a,x5b,x5c,x5d⟩:=r21 cx env4 (AS.mk hp1 s1) a me n (({rkS r k with nx:=topK r.P r.fr (k+1)}:Rv).st) (({rkS r k with nx:=topK r.P r.fr (k+1)}:Rv).br) (({rkS r k with nx:=topK r.P r.fr (k+1)}:Rv).bn) (({rkS r k with nx:=topK r.P r.fr (k+1)}:Rv).fr) (({rkS r k with nx:=topK r.P r.fr (k+1)}:Rv).nx) X A O _ _ R st1 hp3 st3 hp1 s1 x4b hcx f0 f11 f12 o1 o2 o3 rfl (fun _=>hM.oB) hz z1 z2
   have f0:=(x5d 0 (by decide)).trans f0
   have f11:=(x5d 11 (by decide)).trans f11
   have f12:=(x5d 12 (by decide)).trans f12
   have f13:=(x5d 13 (by decide)).trans f13
   have f91:=(x5d 91 (by decide)).trans f91
   have f111:=(x5d 111 (by decide)).trans f111
   have f122:=(x5d 122 (by decide)).trans f122
   obtain ⟨env6,x6a,x6b,x6c,x6d⟩:=r16 cx env5 (AS.mk hp3 st3) _ x5b hcx f11 (wr_ok (by omega) (by omega))
   have f0:=(x6d 0 (by decide)).trans f0
   have f12:=(x6d 12 (by decide)).trans f12
   have f13:=(x6d 13 (by decide)).trans f13
   have f91:=(x6d 91 (by decide)).trans f91
   have f111:=(x6d 111 (by decide)).trans f111
   have f122:=(x6d 122 (by decide)).trans f122
   have f11:=x6c
   have hl2:hp1.length≤(hp1).length:=hkk2.1
   have hR3:RLd hp3 a me n (rkS r (k+1)) X A O3 G1 G2 [(hp1).length]:={
     oB:=z7
     hX:=hM.hX.keep z6 fun i hi=>by rw[List.mem_singleton]; exact fun e=>hR.n1 (by rw[←e]; exact hi)
     hA:=hM.hA.keep z6 fun i hi=>by rw[List.mem_singleton]; exact fun e=>hR.n2 (by rw[←e]; exact hi)
     hO:=by
      have e:(rkS r (k+1)).op=(399 - (k:Int),((valueF r.P (399 - (k:Int))).getD zeroVt).v)::({rkS r k with nx:=topK r.P r.fr (k+1)}:Rv).op:=by
       show rowsR r.P (400 - ((k+1:Nat):Int)) (topK r.P r.fr (k+1))=_ :: rowsR r.P (400 - (k:Int)) (topK r.P r.fr k)
       rw[w2 q3,w1]
      rw[e,List.map_cons]
      exact z8
     n1:=hR.n1
     n2:=hR.n2
     n3:=by rw[List.mem_singleton]; omega
     d12:=hR.d12
     d13:=fun i hi=>by rw[List.mem_singleton]; have:=hR.hX.lt i hi; omega
     d23:=fun i hi=>by rw[List.mem_singleton]; have:=hR.hA.lt i hi; omega}
   have ht3:st3.take cx.h=σ0.st.take cx.h:=by
    have e1:st3.take cx.h=(st3.take s1.length).take cx.h:=by rw[List.take_take,Nat.min_eq_left u2]
    rw[e1,z4,List.take_append_of_le_length (Nat.le_refl _),List.take_length]
    exact u1
   have hs3:cx.h≤st3.length:=by rw[z5]; simp; omega
   exact ⟨.normal,env6,_,(execW_seq_of (execW_seq_of x1a (execW_cond_t ev1 (by rfl))) (execW_seq_of (execW_block_of (execW_seq_of x2a (execW_seq_of (execW_seq_of x3a (execW_cond_f ev2 (by rfl))) (execW_seq_of x4a (execW_cond_t ev3 x5a))))) x6a)), .inl ⟨rfl,x6b,f0,(by rw[f11]; congr 1; omega),⟨ht3,hs3,O3,_,hR3,hup _ (hkk2.trans z6),fun i hi=> .inr (by rw[List.mem_singleton] at hi; omega)⟩⟩⟩
  have ev3:=ev3.trans (congrArg (fun b=>some (AV.bool b)) (decide_eq_false q3))
  obtain ⟨env5,x5a,x5b,x5c,x5d⟩:=r16 cx env4 (AS.mk hp1 s1) _ x4b hcx f11 (wr_ok (by omega) (by omega))
  have f0:=(x5d 0 (by decide)).trans f0
  have f12:=(x5d 12 (by decide)).trans f12
  have f13:=(x5d 13 (by decide)).trans f13
  have f91:=(x5d 91 (by decide)).trans f91
  have f111:=(x5d 111 (by decide)).trans f111
  have f122:=(x5d 122 (by decide)).trans f122
  have f11:=x5c
  have hR3:RLd (hp1) a me n (rkS r (k+1)) X A O G1 G2 F3:=by
   have e:rkS r (k+1)={rkS r k with nx:=topK r.P r.fr (k+1)}:=by
    unfold rkS
    simp only
    rw[w3 q3,w1]
   rw[e]
   exact hM
  exact ⟨.normal,env5,_,(execW_seq_of (execW_seq_of x1a (execW_cond_t ev1 (by rfl))) (execW_seq_of (execW_block_of (execW_seq_of x2a (execW_seq_of (execW_seq_of x3a (execW_cond_f ev2 (by rfl))) (execW_seq_of x4a (execW_cond_f ev3 (by rfl)))))) x5a)), .inl ⟨rfl,x5b,f0,(by rw[f11]; congr 1; omega),⟨u1,u2,O,F3,hR3,hup _ hkk2,hF⟩⟩⟩
theorem lastb (cx:Cx) (hcx:cx.esc= []) (hro: ∀k,cx.ro=some k→k≤cx.h) (σ0:AS) (a:Nat) (me n:Int) (r:Rv) (X A:AV) (G1 G2 G3:List Nat) (hro2:cx.ro=none) (hfr:0≤r.fr∧r.fr≤400) (hvl: ∀p∈r.P,p.2.length≤1000) (hPl:r.P.length≤1000):
  ∀env σ,Jb cx.h σ0 a me n r X A G1 G2 G3 ((400 - r.fr).toNat) env σ→ ∃e env' σ',execW Try.prog cx [] (callW Try.prog how) lpb (env,σ)=some (e,(env',σ'))∧(e≠ .normal∧((e= .exit 2∧Jb cx.h σ0 a me n r X A G1 G2 G3 ((400 - r.fr).toNat) env' σ')∨Exb cx.h σ0 a me n r X A G1 G2 G3 e env' σ')):=by
 rintro env σ ⟨hlen,f0,f11,ho⟩
 unfold lpb
 obtain ⟨u1,u2,O,F3,hR,hK,hF⟩:=ho
 obtain ⟨hp1,s1⟩:=σ
 simp only at u1 u2 hR hK
 have hcnt:(((400 - r.fr).toNat:Nat):Int)=400 - r.fr:=by omega
 obtain ⟨env1,x1a,x1b,x1c,x1d⟩:=r15 cx env (AS.mk hp1 s1) a me n ((rkS r (400 - r.fr).toNat).st) ((rkS r (400 - r.fr).toNat).br) ((rkS r (400 - r.fr).toNat).bn) ((rkS r (400 - r.fr).toNat).fr) ((rkS r (400 - r.fr).toNat).nx) X A O _ hlen hcx f0 f11 hR.hX.one hR.hA.one hR.hO.one hR.oB
 have f0:=(x1d 0 (by decide)).trans f0
 have f11:=(x1d 11 (by decide)).trans f11
 have f91:=x1c
 have ev1:=ev_tmp f91
 rw[decide_eq_false (show¬(rkS r (400 - r.fr).toNat).fr≤399 - (((400 - r.fr).toNat:Nat):Int) by show¬r.fr≤_; omega)] at ev1
 exact ⟨.exit 2,env1,_,(execW_seq_exit (execW_seq_of x1a (execW_cond_f ev1 (by rfl)))),by simp, .inl ⟨rfl,x1b,f0,f11,⟨u1,u2,O,F3,hR,hK,hF⟩⟩⟩
theorem loopb (cx:Cx) (hcx:cx.esc= []) (hro: ∀k,cx.ro=some k→k≤cx.h) (σ0:AS) (a:Nat) (me n:Int) (r:Rv) (X A:AV) (G1 G2 G3:List Nat) (hro2:cx.ro=none) (hfr:0≤r.fr∧r.fr≤400) (hvl: ∀p∈r.P,p.2.length≤1000) (hPl:r.P.length≤1000) {env:Env} {σ:AS} (h0:Jb cx.h σ0 a me n r X A G1 G2 G3 0 env σ):
  ∃e env' σ',execW Try.prog cx [] (callW Try.prog how) (cr [.r, .r, .r, .r, .r, .r, .r, .l, .r]) (env,σ)=some (e,(env',σ'))∧((e= .normal∧(Jb cx.h σ0 a me n r X A G1 G2 G3 ((400 - r.fr).toNat) env' σ'∨Exb cx.h σ0 a me n r X A G1 G2 G3 (.exit 2) env' σ'))∨(e≠ .normal∧e≠ .exit 2∧Exb cx.h σ0 a me n r X A G1 G2 G3 e env' σ')):=by
 rw[lp_eqb]
 exact block_up (J:=Jb cx.h σ0 a me n r X A G1 G2 G3) (Ex:=Exb cx.h σ0 a me n r X A G1 G2 G3) (stepb cx hcx hro σ0 a me n r X A G1 G2 G3 hro2 hfr hvl hPl) (lastb cx hcx hro σ0 a me n r X A G1 G2 G3 hro2 hfr hvl hPl) h0
theorem ok (hp s:List AObj) (a:Nat) (me n k rd rn:Int) (vs:List Vt) (r:Rv) (F:List Nat) (h:StR hp a me n r F) (hfr:0≤r.fr∧r.fr≤400) (hop:r.st=1→r.op= []) (hvl: ∀p∈r.P,p.2.length≤1000) (hPl:r.P.length≤900) (hv:vs.length≤1000):
  ∃hp' F',callW Try.prog how 11 [.ptr (.hp a) 0, .int .i64 k, .agg [.int .u64 rd, .int .i64 rn],slV 4 (vs.map encVt)] ⟨hp,s⟩ none=some (.bool (prR n r k rd rn vs).2,⟨hp',s⟩)∧StR hp' a me n (prR n r k rd rn vs).1 F'∧Stp hp hp' a F F':=by
 let cx:Cx:={h:=s.length,ro:=none,esc:= []}
 have hcx:cx.esc= []:=rfl
 have hro: ∀k,cx.ro=some k→k≤cx.h:=fun k hk=>by cases hk
 obtain ⟨env,henv⟩: ∃e,e=frameA Try.f11 [.ptr (.hp a) 0, .int .i64 k, .agg [.int .u64 rd, .int .i64 rn],slV 4 (vs.map encVt)]:=⟨_,rfl⟩
 have hlen:env.length=135:=by rw[henv]; rfl
 have f0:Env.get env 0= .ptr (.hp a) 0:=by rw[henv]; rfl
 have f1:Env.get env 1= .int .i64 k:=by rw[henv]; rfl
 have f2:Env.get env 2= .agg [.int .u64 rd, .int .i64 rn]:=by rw[henv]; rfl
 have f3:Env.get env 3=slV 4 (vs.map encVt):=by rw[henv]; rfl
 have ho:Outside s.length (AS.mk hp s) (AS.mk hp s):=Outside.refl (Nat.le_refl _)
 obtain ⟨X,A,O,G1,G2,G3,hR,rfl⟩:=h
 have hal:=at_lt2 hR.oB
 have o1:=hR.hX.one; have o2:=hR.hA.one; have o3:=hR.hO.one
 obtain ⟨env1,x1a,x1b,x1c,x1d⟩:=rA cx env (AS.mk hp s) hp s rd rn hlen hcx f2 rfl rfl
 have f0:=(x1d 0 (by decide)).trans f0
 have f1:=(x1d 1 (by decide)).trans f1
 have f2:=(x1d 2 (by decide)).trans f2
 have f3:=(x1d 3 (by decide)).trans f3
 have f6:=x1c.1
 have f8:=x1c.2
 obtain ⟨env2,x2a,x2b,x2c,x2d⟩:=r1 cx env1 (AS.mk hp (s++ [AObj.cells [.int .u64 rd, .int .i64 rn]])) a me n r.st r.br r.bn r.fr r.nx X A O rd rn k s.length hp ((s++ [AObj.cells [.int .u64 rd, .int .i64 rn]])) x1b hcx f0 f1 f6 o1 o2 o3 rfl hR.oB (by simp[AS.get])
 have f0:=(x2d 0 (by decide)).trans f0
 have f1:=(x2d 1 (by decide)).trans f1
 have f2:=(x2d 2 (by decide)).trans f2
 have f3:=(x2d 3 (by decide)).trans f3
 have f6:=(x2d 6 (by decide)).trans f6
 have f8:=(x2d 8 (by decide)).trans f8
 have f38:=x2c
 have ev1:=ev_tmp f38
 have hask:askedR n r k rd rn=((decide (r.st=1) && (decide (rd=r.br) && decide (rn=r.bn)) && (decide (0≤k) && decide (k<n))) && !anyN k r.P):=rfl
 have hno:askedR n r k rd rn=false→prR n r k rd rn vs=(r,false):=fun e=>by unfold prR; rw[e]; rfl
 cases q:(decide (r.st=1) && (decide (rd=r.br) && decide (rn=r.bn)) && (decide (0≤k) && decide (k<n))) with
 | false=>
  have ev1:=ev1.trans (congrArg (fun b=>some (AV.bool !b)) q)
  obtain ⟨env3,x3a,x3b,x3c,x3d⟩:=r2 cx env2 (AS.mk hp (s++ [AObj.cells [.int .u64 rd, .int .i64 rn]])) x2b hcx
  have f0:=(x3d 0 (by decide)).trans f0
  have f1:=(x3d 1 (by decide)).trans f1
  have f2:=(x3d 2 (by decide)).trans f2
  have f3:=(x3d 3 (by decide)).trans f3
  have f6:=(x3d 6 (by decide)).trans f6
  have f38:=(x3d 38 (by decide)).trans f38
  have f8:=x3c
  rw[hno (by rw[hask,q]; rfl)]
  exact ⟨hp,_,call_of (fl:={}) (fn:=Try.f11) (c:=bodyC) (env:=env) (e:=(.ret,(env3,AS.mk hp (s++ [AObj.cells [.int .u64 rd, .int .i64 rn]])))) rfl Try.func11 body henv (by unfold bodyC; exact (execW_seq_of x1a (execW_seq_ret (execW_seq_of x2a (execW_cond_t ev1 (execW_seq_of x3a (by rfl))))))) ((fin_tmp (k:=8) (w:= .bool false) (.inl rfl) rfl rfl f8 (by simp[AV.back]) (by simp[AV.inb])).trans (by simp)),⟨X,A,O,G1,G2,G3,hR,rfl⟩,Stp.refl _ _ _⟩
 | true=>
  have ev1:=ev1.trans (congrArg (fun b=>some (AV.bool !b)) q)
  have hl:=(rdPm hR.hX (s++ [AObj.cells [.int .u64 rd, .int .i64 rn]])).1
  rw[List.length_map] at hl
  obtain ⟨env3,x3a,x3b,x3c,x3d⟩:=r3 cx env2 (AS.mk hp (s++ [AObj.cells [.int .u64 rd, .int .i64 rn]])) a me n r.st r.br r.bn r.fr r.nx X A O r.P.length x2b hcx f0 o1 o2 o3 hR.oB hl
  have f0:=(x3d 0 (by decide)).trans f0
  have f1:=(x3d 1 (by decide)).trans f1
  have f2:=(x3d 2 (by decide)).trans f2
  have f3:=(x3d 3 (by decide)).trans f3
  have f6:=(x3d 6 (by decide)).trans f6
  have f8:=(x3d 8 (by decide)).trans f8
  have f38:=(x3d 38 (by decide)).trans f38
  have f42:=x3c.1
  have f43:=x3c.2.1
  have f44:=x3c.2.2
  have ho:Outside s.length (AS.mk hp s) (AS.mk hp (s++ [AObj.cells [.int .u64 rd, .int .i64 rn]])):=⟨rfl,by simp,by simp⟩
  obtain ⟨e4,env4,σ4,x4a,x4p⟩:=loopa cx hcx hro ⟨hp,s⟩ a k (slV 4 (vs.map encVt)) X r.P (fun st=>rdPm hR.hX st) (by omega) (σ:=AS.mk hp (s++ [AObj.cells [.int .u64 rd, .int .i64 rn]])) x3b f44 f43 (⟨f0,f1,f3,f42,rfl,ho⟩)
  rcases x4p with ⟨rfl,⟨x4b,f0,f1,f3,f42,q0,ho⟩ | x4p⟩ | ⟨x4q,x4r,x4p⟩
  ·skip
   rw[List.take_length] at q0
   obtain ⟨hp1,s2⟩:=σ4
   obtain ⟨ho1,ho2,ho3⟩:=ho
   simp only at ho1 ho2 ho3
   subst ho1
   have hst:r.st=1:=by simp only[Bool.and_eq_true,decide_eq_true_eq] at q; exact q.1.1
   have hop0:=hop hst
   have hpr:prR n r k rd rn vs=if n<2*((takeR r k vs).P.length:Int) then (leadR (takeR r k vs),true) else (takeR r k vs,false):=by
    unfold prR
    rw[if_pos (by rw[hask,q,q0]; rfl)]
   have hz: ∀σ,fzL none σ [.int .i64 k,(slV 4 (vs.map encVt))]=some ([.int .i64 k,(slV 4 (vs.map encVt))],σ):=fun σ=>by
    cases vs with
    | nil=>simp[slV,fzL]
    | cons v l=>simp[slV,fzL]
   obtain ⟨R,hp2,st1,hp3,st3,z1,z2,z3,z4,z5,z6,z7,z8,X',F1,z9,z10,z11⟩:=heap_append (cx:=cx) (st:=s2++ [.row [encPm (k,vs)] 2 0 false]) (k:=s2.length) (x:=encPm (k,vs)) appP s38 rfl hR.hX (by simp) (by rw[List.length_map]; omega) (by decide) hR.oB (o:=6) (by simp[cellsR]) hR.n1
   obtain ⟨env5,x5a,x5b,x5c,x5d⟩:=r9 cx env4 (AS.mk hp1 s2) a me n r.st r.br r.bn r.fr r.nx X A O k ((slV 4 (vs.map encVt))) R hp2 st1 hp3 st3 hp1 s2 x4b hcx f0 f1 f3 o1 o2 o3 rfl slV_plain (fun _=>hR.oB) hz z1 z2
   have f0:=(x5d 0 (by decide)).trans f0
   have f1:=(x5d 1 (by decide)).trans f1
   have f3:=(x5d 3 (by decide)).trans f3
   have f42:=(x5d 42 (by decide)).trans f42
   have hl3:=at_lt2 z9
   have hst3:st3.take s.length=s:=by
    have e1:st3.take s.length=(st3.take (s2++ [AObj.row [encPm (k,vs)] 2 0 false]).length).take s.length:=by
     rw[List.take_take]; congr 1; simp; have:s.length≤s2.length:=ho3; omega
    rw[e1,z4,List.take_append_of_le_length ho3,ho2,List.take_length]
   have hln3:s.length≤st3.length:=by
    have:s.length≤s2.length:=ho3
    simp at z5; omega
   have hmap:(takeR r k vs).P.map encPm=r.P.map encPm++ [encPm (k,vs)]:=by simp[takeR]
   have hR1:RLd hp3 a me n (takeR r k vs) X' A O F1 G2 G3:={
    oB:=z9
    hX:=by rw[hmap]; exact z10
    hA:=hR.hA.keep z8 fun i hi=>by simp only[List.mem_cons,not_or]; exact ⟨fun e=>hR.n2 (by rw[←e]; exact hi),fun h=>hR.d12 i h hi⟩
    hO:=hR.hO.keep z8 fun i hi=>by simp only[List.mem_cons,not_or]; exact ⟨fun e=>hR.n3 (by rw[←e]; exact hi),fun h=>hR.d13 i h hi⟩
    n1:=fun h=>(z11 a h).elim hR.n1 (fun h2=>by omega)
    n2:=hR.n2
    n3:=hR.n3
    d12:=fun i hi h=>(z11 i hi).elim (fun h1=>hR.d12 i h1 h) (fun h2=>by have:=hR.hA.lt i h; omega)
    d13:=fun i hi h=>(z11 i hi).elim (fun h1=>hR.d13 i h1 h) (fun h2=>by have:=hR.hO.lt i h; omega)
    d23:=hR.d23}
   have hS1:Stp hp1 hp3 a (G1++G2++G3) (F1++G2++G3):=⟨z8.mono fun i hi=>by
     simp only[List.mem_cons,List.mem_append] at hi ⊢
     rcases hi with hi | hi
     ·exact .inl (.inl hi)
     ·exact .inl (.inr (.inl (.inl hi))),fun i hi=>by
     simp only[List.mem_append] at hi ⊢
     rcases hi with (hi | hi) | hi
     ·exact (z11 i hi).imp (fun h=> .inl (.inl h)) id
     ·exact .inl (.inl (.inr hi))
     ·exact .inl (.inr hi)⟩
   have hlX:=(rdPm hR1.hX st3).1
   rw[List.length_map] at hlX
   have hPl1:(takeR r k vs).P.length≤901:=by simp[takeR]; omega
   have hvl1: ∀p∈(takeR r k vs).P,p.2.length≤1000:=fun p hp=>by
    rcases List.mem_append.1 hp with hp | hp
    ·exact hvl p hp
    ·rw[List.mem_singleton.1 hp]; exact hv
   have p1:=hR1.hX.one
   obtain ⟨env6,x6a,x6b,x6c,x6d⟩:=r10 cx env5 (AS.mk hp3 st3) a me n ((takeR r k vs).st) ((takeR r k vs).br) ((takeR r k vs).bn) ((takeR r k vs).fr) ((takeR r k vs).nx) X' A O ((takeR r k vs).P.length) x5b hcx f0 p1 o2 o3 hR1.oB hlX (wr_ok (by omega) (by omega))
   have f0:=(x6d 0 (by decide)).trans f0
   have f1:=(x6d 1 (by decide)).trans f1
   have f3:=(x6d 3 (by decide)).trans f3
   have f42:=(x6d 42 (by decide)).trans f42
   have f75:=x6c
   have ev2:=ev_tmp f75
   by_cases q2:n<2*((takeR r k vs).P.length:Int)
   case neg=>
    rw[decide_eq_true (show 2*((takeR r k vs).P.length:Int)≤n by omega)] at ev2
    obtain ⟨env7,x7a,x7b,x7c,x7d⟩:=r11 cx env6 (AS.mk hp3 st3) x6b hcx
    have f0:=(x7d 0 (by decide)).trans f0
    have f1:=(x7d 1 (by decide)).trans f1
    have f3:=(x7d 3 (by decide)).trans f3
    have f42:=(x7d 42 (by decide)).trans f42
    have f75:=(x7d 75 (by decide)).trans f75
    have f8:=x7c
    rw[hpr,if_neg q2]
    exact ⟨hp3,_,call_of (fl:={}) (fn:=Try.f11) (c:=bodyC) (env:=env) (e:=(.ret,(env7,AS.mk hp3 st3))) rfl Try.func11 body henv (by unfold bodyC; exact (execW_seq_of x1a (execW_seq_of (execW_seq_of x2a (execW_cond_f ev1 (by rfl))) (execW_seq_of (execW_seq_of x3a x4a) (execW_seq_of x5a (execW_seq_ret (execW_seq_of x6a (execW_cond_t ev2 (execW_seq_of x7a (by rfl)))))))))) ((fin_tmp (k:=8) (w:= .bool false) (.inl rfl) rfl rfl f8 (by simp[AV.back]) (by simp[AV.inb])).trans (congrArg (fun z=>some (_,AS.mk _ z)) hst3)),⟨X',A,O,F1,G2,G3,hR1,rfl⟩,hS1⟩
   rw[decide_eq_false (show¬2*((takeR r k vs).P.length:Int)≤n by omega)] at ev2
   rw[hpr,if_pos q2]
   obtain ⟨env7,x7a,x7b,x7c,x7d⟩:=r12 cx env6 (AS.mk hp3 st3) a me n ((takeR r k vs).st) ((takeR r k vs).br) ((takeR r k vs).bn) ((takeR r k vs).fr) ((takeR r k vs).nx) X' A O hp3 st3 x6b hcx f0 p1 o2 o3 rfl rfl hR1.oB
   have f0:=(x7d 0 (by decide)).trans f0
   have f1:=(x7d 1 (by decide)).trans f1
   have f3:=(x7d 3 (by decide)).trans f3
   have f42:=(x7d 42 (by decide)).trans f42
   have f75:=(x7d 75 (by decide)).trans f75
   obtain ⟨env8,x8a,x8b,x8c,x8d⟩:=r13 cx env7 (AS.mk (hp3.set a (.cells (cellsR me n {(takeR r k vs) with st:=2} X' A O))) st3) a me n (({(takeR r k vs) with st:=2}:Rv).st) (({(takeR r k vs) with st:=2}:Rv).br) (({(takeR r k vs) with st:=2}:Rv).bn) (({(takeR r k vs) with st:=2}:Rv).fr) (({(takeR r k vs) with st:=2}:Rv).nx) X' A O ((hp3.set a (.cells (cellsR me n {(takeR r k vs) with st:=2} X' A O)))) st3 x7b hcx f0 p1 o2 o3 rfl rfl (List.getElem?_set_self hl3)
   have f0:=(x8d 0 (by decide)).trans f0
   have f1:=(x8d 1 (by decide)).trans f1
   have f3:=(x8d 3 (by decide)).trans f3
   have f42:=(x8d 42 (by decide)).trans f42
   have f75:=(x8d 75 (by decide)).trans f75
   obtain ⟨env9,x9a,x9b,x9c,x9d⟩:=r14 cx env8 (AS.mk ((hp3.set a (.cells (cellsR me n {(takeR r k vs) with st:=2} X' A O))).set a (.cells (cellsR me n (rkS (takeR r k vs) 0) X' A O))) st3) x8b hcx
   have f0:=(x9d 0 (by decide)).trans f0
   have f1:=(x9d 1 (by decide)).trans f1
   have f3:=(x9d 3 (by decide)).trans f3
   have f42:=(x9d 42 (by decide)).trans f42
   have f75:=(x9d 75 (by decide)).trans f75
   have f11:=x9c
   have hk5:Kp hp3 ((hp3.set a (.cells (cellsR me n {(takeR r k vs) with st:=2} X' A O))).set a (.cells (cellsR me n (rkS (takeR r k vs) 0) X' A O))) [a]:=(Kp.set hp3 a _ _ (List.mem_singleton_self _)).trans (Kp.set _ a _ _ (List.mem_singleton_self _))
   have e0:(rkS (takeR r k vs) 0).op=r.op:=by
    show rowsR _ (400 - ((0:Nat):Int)) (topK _ r.fr 0)=r.op
    rw[hop0]
    exact rowsR_none _ _ _ (by show r.fr≤_; have:=hfr.2; omega)
   have hR5:RLd ((hp3.set a (.cells (cellsR me n {(takeR r k vs) with st:=2} X' A O))).set a (.cells (cellsR me n (rkS (takeR r k vs) 0) X' A O))) a me n (rkS (takeR r k vs) 0) X' A O F1 G2 G3:={
    oB:=List.getElem?_set_self (by simp; exact hl3)
    hX:=hR1.hX.keep hk5 fun i hi=>by rw[List.mem_singleton]; exact fun e=>hR1.n1 (by rw[←e]; exact hi)
    hA:=hR1.hA.keep hk5 fun i hi=>by rw[List.mem_singleton]; exact fun e=>hR1.n2 (by rw[←e]; exact hi)
    hO:=by rw[e0]; exact hR1.hO.keep hk5 fun i hi=>by rw[List.mem_singleton]; exact fun e=>hR1.n3 (by rw[←e]; exact hi)
    n1:=hR1.n1
    n2:=hR1.n2
    n3:=hR1.n3
    d12:=hR1.d12
    d13:=hR1.d13
    d23:=hR1.d23}
   obtain ⟨e10,env10,σ10,x10a,x10p⟩:=loopb cx hcx hro ⟨((hp3.set a (.cells (cellsR me n {(takeR r k vs) with st:=2} X' A O))).set a (.cells (cellsR me n (rkS (takeR r k vs) 0) X' A O))),st3⟩ a me n (takeR r k vs) X' A F1 G2 G3 rfl hfr hvl1 (by omega) (σ:=AS.mk ((hp3.set a (.cells (cellsR me n {(takeR r k vs) with st:=2} X' A O))).set a (.cells (cellsR me n (rkS (takeR r k vs) 0) X' A O))) st3) (⟨x9b,f0,(by rw[f11]; rfl),rfl,hln3,O,G3,hR5,Kp.refl _ _,fun i hi=> .inl hi⟩)
   rcases x10p with ⟨rfl,⟨x10b,f0,f11,ho⟩ | x10p⟩ | ⟨x10q,x10r,x10p⟩
   ·skip
    obtain ⟨u1,u2,O9,F9,hR9,hK9,hF9⟩:=ho
    obtain ⟨hp9,s9⟩:=σ10
    simp only at u1 u2 hR9 hK9
    obtain ⟨env11,x11a,x11b,x11c,x11d⟩:=r22 cx env10 (AS.mk hp9 s9) x10b hcx
    have f0:=(x11d 0 (by decide)).trans f0
    have f11:=(x11d 11 (by decide)).trans f11
    have f8:=x11c
    have hfin:rkS (takeR r k vs) (400 - (takeR r k vs).fr).toNat=leadR (takeR r k vs):=by
     have e1:400 - (((400 - (takeR r k vs).fr).toNat:Nat):Int)=(takeR r k vs).fr:=by
      have:(takeR r k vs).fr=r.fr:=rfl
      omega
     unfold rkS leadR
     rw[e1]
     rfl
    rw[hfin] at hR9
    refine ⟨hp9,F1++G2++F9,call_of (fl:={}) (fn:=Try.f11) (c:=bodyC) (env:=env) (e:=(.ret,(env11,AS.mk hp9 s9))) rfl Try.func11 body henv (by unfold bodyC; exact (execW_seq_of x1a (execW_seq_of (execW_seq_of x2a (execW_cond_f ev1 (by rfl))) (execW_seq_of (execW_seq_of x3a x4a) (execW_seq_of x5a (execW_seq_of (execW_seq_of x6a (execW_cond_f ev2 (by rfl))) (execW_seq_of x7a (execW_seq_of x8a (execW_seq_of (execW_seq_of x9a x10a) (execW_seq_of x11a (by rfl))))))))))) ((fin_tmp (k:=8) (w:= .bool true) (.inl rfl) rfl rfl f8 (by simp[AV.back]) (by simp[AV.inb])).trans (congrArg (fun z=>some (_,AS.mk _ z)) (u1.trans hst3))),⟨X',A,O9,F1,G2,F9,hR9,rfl⟩,?_,?_⟩
    ·refine hS1.1.trans (((hk5.mono fun i hi=> .inl (by rw[List.mem_singleton] at hi; rw[hi]; exact List.mem_cons_self ..)).trans (hK9.mono fun i hi=>?_)))
     simp only[List.mem_cons,List.mem_append] at hi ⊢
     rcases hi with hi | hi
     ·exact .inl (.inl hi)
     ·exact .inl (.inr (.inr hi))
    ·intro i hi
     simp only[List.mem_append] at hi
     have h35:(((hp3.set a (.cells (cellsR me n {(takeR r k vs) with st:=2} X' A O))).set a (.cells (cellsR me n (rkS (takeR r k vs) 0) X' A O)))).length=hp3.length:=by simp
     rcases hi with (hi | hi) | hi
     ·exact hS1.2 i (by simp[hi])
     ·exact hS1.2 i (by simp[hi])
     ·rcases hF9 i hi with h | h
      ·exact hS1.2 i (by simp[h])
      ·have hh:(((hp3.set a (.cells (cellsR me n {(takeR r k vs) with st:=2} X' A O))).set a (.cells (cellsR me n (rkS (takeR r k vs) 0) X' A O)))).length≤i:=h
       have:=hS1.1.1
       exact .inr (by omega)
   ·cases x10p
   ·cases x10p
  ·cases x4p.1
  ·skip
   obtain ⟨rfl,x4b,f8,ho,hany⟩:=x4p
   rw[hno (by rw[hask,hany]; simp)]
   exact ⟨hp,_,call_of (fl:={}) (fn:=Try.f11) (c:=bodyC) (env:=env) (e:=(.ret,(env4,σ4))) rfl Try.func11 body henv (by unfold bodyC; exact (execW_seq_of x1a (execW_seq_of (execW_seq_of x2a (execW_cond_f ev1 (by rfl))) (execW_seq_ret (execW_seq_of x3a x4a))))) ((fin_tmp (k:=8) (w:= .bool false) (.inl rfl) rfl rfl f8 (by simp[AV.back]) (by simp[AV.inb])).trans (congrArg (fun x=>some (_,x)) (outside_st ho))),⟨X,A,O,G1,G2,G3,hR,rfl⟩,Stp.refl _ _ _⟩
end RProm
