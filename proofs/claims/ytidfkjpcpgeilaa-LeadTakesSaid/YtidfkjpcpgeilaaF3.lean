/- Walk 3. -/

import Derived.Test.YtidfkjpcpgeilaaF2
import Derived.Test.YtidfkjpcpgeilaaG1
open Go Go.Abs Go.Proofs
set_option maxRecDepth 100000
set_option maxHeartbeats 4000000
set_option linter.unusedSimpArgs false
set_option linter.unusedVariables false
open Ldr
section
attribute [local simp] ofV ofCell ofCells seqA_nil seqA_cons seqVK_eq seqEK_eq wantedA yieldedA isVal effA ev evs evps putE optsA optsOk valA fieldAddrA fieldA loadA partA aggA isAggD buildA placesA fillA lay storeA AV.withCells buildSliceA elemsA rowParts fzL promL okE isSrc bytesOk pushA cxOf lenA binA intBinA strBinA unA indexAddrA eqA AVs.inb AV.inb Loc.inb calleeA opsOf sub bodyOf Env.get_set quietA_nil quietA_cons quietK_none quietK_some qstep newA isNew escNew boxOk newLoc flat rowPartsQ quietN quietOp isBS List.takeWhile finishA_eq finK_ret finK_normal retK backK resA oneA AV.back AVs.back execW_seq_eq seqK_normal seqK_ret seqK_exit execW_cond_eq condK_true condK_false execW_block_eq blockK_exit blockK_normal blockK_ret execW_region_eq regK_eq execW_skip execW_exit execW_ret regionA_plain regionA_quiet0 tailK_eq nilCheckA guardOk isConst lookupA keyFits mapUpdateA beqI bneI
theorem new_raw (hp s:List AObj) (me n m1 n1:Int) (e1:(if 4<if me<0 then 0 else me then 4 else if me<0 then 0 else me)=m1) (e2:(if 5<if n<1 then 1 else n then 5 else if n<1 then 1 else n)=n1):
  callW Try.prog how 6 [.int .i64 me, .int .i64 n] ⟨hp,s⟩ none=some (.ptr (.hp hp.length) 0,⟨hp++ [.cells [.int .i64 m1, .int .i64 n1, .int .i64 0, .int .u64 0, .int .i64 0, .int .i64 0, .int .u8 0, .nilm, .nilm, .int .i64 0]],s⟩):=by
 refine callW_body (fl:={esc:= [12]}) (fn:=Try.f6) (c:=bodyOf Try.f6) rfl Try.func6 rfl ?_
 have henv: ∃e,e=frameA Try.f6 [.int .i64 me, .int .i64 n]:=⟨_,rfl⟩
 obtain ⟨env,henv⟩:=henv
 have hl:env.length=13:=by rw[henv]; rfl
 have h0:Env.get env 0= .int .i64 me:=by rw[henv]; rfl
 have h1:Env.get env 1= .int .i64 n:=by rw[henv]; rfl
 rw[←henv]
 clear henv
 simp -implicitDefEqProofs [Try.f6,hl,h0,h1,e1,e2,minMaxA,mmStep]
end
theorem clampMe_if (m:Int):(if 4<if m<0 then 0 else m then 4 else if m<0 then 0 else m)=clampMe m:=by
 unfold clampMe
 split <;> split <;> omega
theorem new_c (hp s:List AObj) (me n:Int):callW Try.prog how 6 [.int .i64 me, .int .i64 n] ⟨hp,s⟩ none=some (.ptr (.hp hp.length) 0,⟨hp++ [.cells (cellsL (clampMe me) (clampM n) idleL .nilm .nilm)],s⟩):=
 new_raw hp s me n _ _ (clampMe_if me) (clamp_if n)
section
attribute [local simp] ofV ofCell ofCells seqA_nil seqA_cons seqVK_eq seqEK_eq wantedA yieldedA isVal effA ev evs evps putE optsA optsOk valA fieldAddrA fieldA loadA partA aggA isAggD buildA placesA fillA lay storeA AV.withCells buildSliceA elemsA rowParts fzL promL okE isSrc bytesOk pushA cxOf lenA binA intBinA strBinA unA indexAddrA eqA AVs.inb AV.inb Loc.inb calleeA opsOf sub bodyOf Env.get_set quietA_nil quietA_cons quietK_none quietK_some qstep newA isNew escNew boxOk newLoc flat rowPartsQ quietN quietOp isBS List.takeWhile finishA_eq finK_ret finK_normal retK backK resA oneA AV.back AVs.back execW_seq_eq seqK_normal seqK_ret seqK_exit execW_cond_eq condK_true condK_false execW_block_eq blockK_exit blockK_normal blockK_ret execW_region_eq regK_eq execW_skip execW_exit execW_ret regionA_plain regionA_quiet0 tailK_eq nilCheckA guardOk isConst lookupA keyFits mapUpdateA beqI bneI
theorem rnew_raw (hp s:List AObj) (me n:Int):
  callW Try.prog how 14 [.int .i64 me, .int .i64 n] ⟨hp,s⟩ none=some (.ptr (.hp hp.length) 0,⟨hp++ [.cells [.int .i64 (clampMe me), .int .i64 (clampM n), .int .i64 0, .int .u64 0, .int .i64 0, .int .i64 0, .nils, .nils, .nils, .int .i64 0]],s⟩):=by
 refine callW_body (fl:={esc:= [16]}) (fn:=Try.f14) (c:=bodyOf Try.f14) rfl Try.func14 rfl ?_
 have henv: ∃e,e=frameA Try.f14 [.int .i64 me, .int .i64 n]:=⟨_,rfl⟩
 obtain ⟨env,henv⟩:=henv
 have hl:env.length=17:=by rw[henv]; rfl
 have h0:Env.get env 0= .int .i64 me:=by rw[henv]; rfl
 have h1:Env.get env 1= .int .i64 n:=by rw[henv]; rfl
 rw[←henv]
 clear henv
 have c1:clampMe me=if me<0 then 0 else if 4<me then 4 else me:=by unfold clampMe; split <;>(try split)<;> omega
 have c2:clampM n=if n<1 then 1 else if 5<n then 5 else n:=by unfold clampM; split <;>(try split)<;> omega
 rw[c1,c2]
 by_cases p1:me<0 <;> by_cases p2:4<me <;> by_cases p3:n<1 <;> by_cases p4:5<n
 all_goals simp -implicitDefEqProofs [Try.f14,hl,h0,h1,p1,p2,p3,p4]
end
theorem rnew_c (hp s:List AObj) (me n:Int):callW Try.prog how 14 [.int .i64 me, .int .i64 n] ⟨hp,s⟩ none=some (.ptr (.hp hp.length) 0,⟨hp++ [.cells (cellsR (clampMe me) (clampM n) idleR .nils .nils .nils)],s⟩):=rnew_raw hp s me n
section
attribute [local simp] ofV ofCell ofCells seqA_nil seqA_cons seqVK_eq seqEK_eq wantedA yieldedA isVal effA ev evs evps putE optsA optsOk valA fieldAddrA fieldA loadA partA aggA isAggD buildA placesA fillA lay storeA AV.withCells buildSliceA elemsA rowParts fzL promL okE isSrc bytesOk pushA cxOf lenA binA intBinA strBinA unA indexAddrA eqA AVs.inb AV.inb Loc.inb calleeA opsOf sub bodyOf Env.get_set quietA_nil quietA_cons quietK_none quietK_some qstep newA isNew escNew boxOk newLoc flat rowPartsQ quietN quietOp isBS List.takeWhile finishA_eq finK_ret finK_normal retK backK resA oneA AV.back AVs.back execW_seq_eq seqK_normal seqK_ret seqK_exit execW_cond_eq condK_true condK_false execW_block_eq blockK_exit blockK_normal blockK_ret execW_region_eq regK_eq execW_skip execW_exit execW_ret regionA_plain regionA_quiet0 tailK_eq nilCheckA guardOk isConst lookupA keyFits mapUpdateA beqI bneI
theorem quit_raw (hp s:List AObj) (a:Nat) (me n st br bn fr pr nx:Int) (B O:AV) (hA: ∀s,(AS.mk hp s).get (.hp a)=some (.cells [.int .i64 me, .int .i64 n, .int .i64 st, .int .u64 br, .int .i64 bn, .int .i64 fr, .int .u8 pr,B,O, .int .i64 nx])):
  callW Try.prog how 38 [.ptr (.hp a) 0] ⟨hp,s⟩ none=some (.tup [],⟨hp.set a (.cells [.int .i64 me, .int .i64 n, .int .i64 0, .int .u64 0, .int .i64 0, .int .i64 0, .int .u8 0, .nilm, .nilm, .int .i64 0]),s⟩):=by
 refine callW_body (fl:={}) (fn:=Try.f38) (c:=bodyOf Try.f38) rfl Try.func38 rfl ?_
 have henv: ∃e,e=frameA Try.f38 [.ptr (.hp a) 0]:=⟨_,rfl⟩
 obtain ⟨env,henv⟩:=henv
 have hl:env.length=15:=by rw[henv]; rfl
 have h0:Env.get env 0= .ptr (.hp a) 0:=by rw[henv]; rfl
 rw[←henv]
 clear henv
 simp -implicitDefEqProofs [Try.f38,hl,h0,hA,AS.set]
theorem rquit_raw (hp s:List AObj) (a:Nat) (me n st br bn fr nx:Int) (X A O:AV) (hA: ∀s,(AS.mk hp s).get (.hp a)=some (.cells [.int .i64 me, .int .i64 n, .int .i64 st, .int .u64 br, .int .i64 bn, .int .i64 fr,X,A,O, .int .i64 nx])):
  callW Try.prog how 39 [.ptr (.hp a) 0] ⟨hp,s⟩ none=some (.tup [],⟨hp.set a (.cells [.int .i64 me, .int .i64 n, .int .i64 0, .int .u64 0, .int .i64 0, .int .i64 0, .nils, .nils, .nils, .int .i64 0]),s⟩):=by
 refine callW_body (fl:={}) (fn:=Try.f39) (c:=bodyOf Try.f39) rfl Try.func39 rfl ?_
 have henv: ∃e,e=frameA Try.f39 [.ptr (.hp a) 0]:=⟨_,rfl⟩
 obtain ⟨env,henv⟩:=henv
 have hl:env.length=13:=by rw[henv]; rfl
 have h0:Env.get env 0= .ptr (.hp a) 0:=by rw[henv]; rfl
 rw[←henv]
 clear henv
 simp -implicitDefEqProofs [Try.f39,hl,h0,hA,AS.set]
end
theorem quit_ok (hp s:List AObj) (a:Nat) (me n:Int) (p:Lv) (F:List Nat) (h:StL hp a me n p F): ∃hp',callW Try.prog how 38 [.ptr (.hp a) 0] ⟨hp,s⟩ none=some (.tup [],⟨hp',s⟩)∧StL hp' a me n idleL []∧Stp hp hp' a F []:=by
 obtain ⟨B,O,hA⟩:=h.at_
 exact ⟨_,quit_raw hp s a _ _ _ _ _ _ _ _ B O (fun _=>hA), .inl ⟨rfl,rfl,List.getElem?_set_self (at_lt2 hA)⟩,Kp.set _ _ _ _ (List.mem_cons_self ..),fun i hi=>by cases hi⟩
theorem rquit_ok (hp s:List AObj) (a:Nat) (me n:Int) (r:Rv) (F:List Nat) (h:StR hp a me n r F): ∃hp',callW Try.prog how 39 [.ptr (.hp a) 0] ⟨hp,s⟩ none=some (.tup [],⟨hp',s⟩)∧StR hp' a me n idleR []∧Stp hp hp' a F []:=by
 obtain ⟨X,A,O,G1,G2,G3,hA,rfl⟩:=h
 refine ⟨_,rquit_raw hp s a _ _ _ _ _ _ _ X A O (fun _=>hA.oB),⟨.nils, .nils, .nils,[],[],[],?_,rfl⟩,Kp.set _ _ _ _ (List.mem_cons_self ..),fun i hi=>by cases hi⟩
 exact {oB:=List.getElem?_set_self (at_lt2 hA.oB),hX:= .inl ⟨rfl,rfl,rfl⟩,hA:= .inl ⟨rfl,rfl,rfl⟩,hO:= .inl ⟨rfl,rfl,rfl⟩,n1:=by simp,n2:=by simp,n3:=by simp,d12:=by simp,d13:=by simp,d23:=by simp}