/- Walk 5. -/

import Derived.Test.YtidfkjpcpgeilaaF4
open Go Go.Abs Go.Proofs
set_option maxRecDepth 100000
set_option maxHeartbeats 4000000
set_option linter.unusedSimpArgs false
set_option linter.unusedVariables false
open Ldr
section
attribute [local simp] ofV ofCell ofCells seqA_nil seqA_cons seqVK_eq seqEK_eq wantedA yieldedA isVal effA ev evs evps putE optsA optsOk valA fieldAddrA fieldA loadA partA aggA isAggD buildA placesA fillA lay storeA AV.withCells buildSliceA elemsA rowParts fzL promL okE isSrc bytesOk pushA cxOf lenA binA intBinA strBinA unA indexAddrA eqA AVs.inb AV.inb Loc.inb calleeA opsOf sub bodyOf Env.get_set quietA_nil quietA_cons quietK_none quietK_some qstep newA isNew escNew boxOk newLoc flat rowPartsQ quietN quietOp isBS List.takeWhile finishA_eq finK_ret finK_normal retK backK resA oneA AV.back AVs.back execW_seq_eq seqK_normal seqK_ret seqK_exit execW_cond_eq condK_true condK_false execW_block_eq blockK_exit blockK_normal blockK_ret execW_region_eq regK_eq execW_skip execW_exit execW_ret regionA_plain regionA_quiet0 tailK_eq nilCheckA guardOk isConst lookupA keyFits mapUpdateA beqI bneI
theorem rbeg_a (hp s:List AObj) (a:Nat) (me n st br bn fr nx:Int) (X A O:AV) (rd rn f9:Int) (hA: ∀s,(AS.mk hp s).get (.hp a)=some (.cells [.int .i64 me, .int .i64 n, .int .i64 st, .int .u64 br, .int .i64 bn, .int .i64 fr,X,A,O, .int .i64 nx])) (p1:f9<0) (p2: ¬0≤f9):
  callW Try.prog how 35 [.ptr (.hp a) 0, .agg [.int .u64 rd, .int .i64 rn], .int .i64 f9] ⟨hp,s⟩ none=some (.tup [.agg [.int .u64 0, .int .i64 0], .int .i64 1],⟨hp,s⟩):=by
 refine callW_body (fl:={}) (fn:=Try.f35) (c:=bodyOf Try.f35) rfl Try.func35 rfl ?_
 have henv: ∃e,e=frameA Try.f35 [.ptr (.hp a) 0, .agg [.int .u64 rd, .int .i64 rn], .int .i64 f9]:=⟨_,rfl⟩
 obtain ⟨env,henv⟩:=henv
 have hl:env.length=42:=by rw[henv]; rfl
 have h0:Env.get env 0= .ptr (.hp a) 0:=by rw[henv]; rfl
 have h1:Env.get env 1= .agg [.int .u64 rd, .int .i64 rn]:=by rw[henv]; rfl
 have h2:Env.get env 2= .int .i64 f9:=by rw[henv]; rfl
 rw[←henv]
 clear henv
 simp -implicitDefEqProofs [Try.f35,hl,h0,h1,h2,hA,p1,p2,List.append_assoc]
theorem rbeg_b (hp s:List AObj) (a:Nat) (me n st br bn fr nx:Int) (X A O:AV) (rd rn f9:Int) (hA: ∀s,(AS.mk hp s).get (.hp a)=some (.cells [.int .i64 me, .int .i64 n, .int .i64 st, .int .u64 br, .int .i64 bn, .int .i64 fr,X,A,O, .int .i64 nx])) (p1:0≤f9) (p2:400<f9) (p3: ¬f9<0):
  callW Try.prog how 35 [.ptr (.hp a) 0, .agg [.int .u64 rd, .int .i64 rn], .int .i64 f9] ⟨hp,s⟩ none=some (.tup [.agg [.int .u64 0, .int .i64 0], .int .i64 1],⟨hp,s⟩):=by
 refine callW_body (fl:={}) (fn:=Try.f35) (c:=bodyOf Try.f35) rfl Try.func35 rfl ?_
 have henv: ∃e,e=frameA Try.f35 [.ptr (.hp a) 0, .agg [.int .u64 rd, .int .i64 rn], .int .i64 f9]:=⟨_,rfl⟩
 obtain ⟨env,henv⟩:=henv
 have hl:env.length=42:=by rw[henv]; rfl
 have h0:Env.get env 0= .ptr (.hp a) 0:=by rw[henv]; rfl
 have h1:Env.get env 1= .agg [.int .u64 rd, .int .i64 rn]:=by rw[henv]; rfl
 have h2:Env.get env 2= .int .i64 f9:=by rw[henv]; rfl
 rw[←henv]
 clear henv
 simp -implicitDefEqProofs [Try.f35,hl,h0,h1,h2,hA,p1,p2,p3,List.append_assoc]
theorem rbeg_c (hp s:List AObj) (a:Nat) (me n st br bn fr nx:Int) (X A O:AV) (rd rn f9:Int) (hA: ∀s,(AS.mk hp s).get (.hp a)=some (.cells [.int .i64 me, .int .i64 n, .int .i64 st, .int .u64 br, .int .i64 bn, .int .i64 fr,X,A,O, .int .i64 nx])) (p1:0≤f9) (p2: ¬400<f9) (p3: ¬f9<0) (q:rd=18446744073709551615):
  callW Try.prog how 35 [.ptr (.hp a) 0, .agg [.int .u64 rd, .int .i64 rn], .int .i64 f9] ⟨hp,s⟩ none=some (.tup [.agg [.int .u64 0, .int .i64 0], .int .i64 9],⟨hp,s⟩):=by
 refine callW_body (fl:={}) (fn:=Try.f35) (c:=bodyOf Try.f35) rfl Try.func35 rfl ?_
 have henv: ∃e,e=frameA Try.f35 [.ptr (.hp a) 0, .agg [.int .u64 rd, .int .i64 rn], .int .i64 f9]:=⟨_,rfl⟩
 obtain ⟨env,henv⟩:=henv
 have hl:env.length=42:=by rw[henv]; rfl
 have h0:Env.get env 0= .ptr (.hp a) 0:=by rw[henv]; rfl
 have h1:Env.get env 1= .agg [.int .u64 rd, .int .i64 rn]:=by rw[henv]; rfl
 have h2:Env.get env 2= .int .i64 f9:=by rw[henv]; rfl
 rw[←henv]
 clear henv
 subst q
 simp -implicitDefEqProofs [Try.f35,hl,h0,h1,h2,hA,p1,p2,p3,List.append_assoc]
theorem rbeg_d (hp s:List AObj) (a:Nat) (me n st br bn fr nx:Int) (X A O:AV) (rd rn f9:Int) (hA: ∀s,(AS.mk hp s).get (.hp a)=some (.cells [.int .i64 me, .int .i64 n, .int .i64 st, .int .u64 br, .int .i64 bn, .int .i64 fr,X,A,O, .int .i64 nx])) (p1:0≤f9) (p2: ¬400<f9) (p3: ¬f9<0) (q: ¬rd=18446744073709551615) (hw:wr .u64 (rd+1)=rd+1):
  callW Try.prog how 35 [.ptr (.hp a) 0, .agg [.int .u64 rd, .int .i64 rn], .int .i64 f9] ⟨hp,s⟩ none=some (.tup [.agg [.int .u64 (rd+1), .int .i64 me], .int .i64 0],⟨hp.set a (.cells [.int .i64 me, .int .i64 n, .int .i64 1, .int .u64 (rd+1), .int .i64 me, .int .i64 f9, .nils, .nils, .nils, .int .i64 0]),s⟩):=by
 refine callW_body (fl:={}) (fn:=Try.f35) (c:=bodyOf Try.f35) rfl Try.func35 rfl ?_
 have henv: ∃e,e=frameA Try.f35 [.ptr (.hp a) 0, .agg [.int .u64 rd, .int .i64 rn], .int .i64 f9]:=⟨_,rfl⟩
 obtain ⟨env,henv⟩:=henv
 have hl:env.length=42:=by rw[henv]; rfl
 have h0:Env.get env 0= .ptr (.hp a) 0:=by rw[henv]; rfl
 have h1:Env.get env 1= .agg [.int .u64 rd, .int .i64 rn]:=by rw[henv]; rfl
 have h2:Env.get env 2= .int .i64 f9:=by rw[henv]; rfl
 rw[←henv]
 clear henv
 simp -implicitDefEqProofs [Try.f35,hl,h0,h1,h2,hA,p1,p2,p3,q,hw,List.append_assoc,AS.set]
end
theorem rbegin_ok (hp s:List AObj) (a:Nat) (me n rd rn fr:Int) (r:Rv) (F:List Nat) (h:StR hp a me n r F) (h0:0≤rd∧rd≤18446744073709551615):(((fr<0∨400<fr)∧callW Try.prog how 35 [.ptr (.hp a) 0, .agg [.int .u64 rd, .int .i64 rn], .int .i64 fr] ⟨hp,s⟩ none=some (.tup [.agg [.int .u64 0, .int .i64 0], .int .i64 1],⟨hp,s⟩))∨((0≤fr∧fr≤400)∧rd=18446744073709551615∧callW Try.prog how 35 [.ptr (.hp a) 0, .agg [.int .u64 rd, .int .i64 rn], .int .i64 fr] ⟨hp,s⟩ none=some (.tup [.agg [.int .u64 0, .int .i64 0], .int .i64 9],⟨hp,s⟩))∨
   ((0≤fr∧fr≤400)∧ ¬rd=18446744073709551615∧ ∃hp' F',callW Try.prog how 35 [.ptr (.hp a) 0, .agg [.int .u64 rd, .int .i64 rn], .int .i64 fr] ⟨hp,s⟩ none=some (.tup [.agg [.int .u64 (rd+1), .int .i64 me], .int .i64 0],⟨hp',s⟩)∧StR hp' a me n (begR me rd fr) F'∧Stp hp hp' a F F')):=by
 obtain ⟨X,A,O,G1,G2,G3,hA,rfl⟩:=h
 have hal:=at_lt2 hA.oB
 rcases (show fr<0∨(0≤fr∧400<fr)∨(0≤fr∧fr≤400) by omega) with q | q | q
 ·exact .inl ⟨.inl q,rbeg_a hp s a me n r.st r.br r.bn r.fr r.nx X A O rd rn fr (fun _=>hA.oB) q (by omega)⟩
 ·exact .inl ⟨.inr q.2,rbeg_b hp s a me n r.st r.br r.bn r.fr r.nx X A O rd rn fr (fun _=>hA.oB) q.1 q.2 (by omega)⟩
 ·by_cases q2:rd=18446744073709551615
  ·exact .inr (.inl ⟨q,q2,rbeg_c hp s a me n r.st r.br r.bn r.fr r.nx X A O rd rn fr (fun _=>hA.oB) q.1 (by omega) (by omega) q2⟩)
  ·refine .inr (.inr ⟨q,q2,_,[],rbeg_d hp s a me n r.st r.br r.bn r.fr r.nx X A O rd rn fr (fun _=>hA.oB) q.1 (by omega) (by omega) q2 (wr_u64 (by omega) (by omega)),⟨.nils, .nils, .nils,[],[],[],?_,rfl⟩,Kp.set _ _ _ _ (List.mem_cons_self ..),fun i hi=>by cases hi⟩)
   exact {oB:=List.getElem?_set_self hal,hX:= .inl ⟨rfl,rfl,rfl⟩,hA:= .inl ⟨rfl,rfl,rfl⟩,hO:= .inl ⟨rfl,rfl,rfl⟩,n1:=by simp,n2:=by simp,n3:=by simp,d12:=by simp,d13:=by simp,d23:=by simp}