/-
  A part of the proof of a statement of this seat.
-/
import Derived.Test.YthcdjconlfdidaaGreatDoorE2M
set_option linter.unusedVariables false
set_option linter.unusedSimpArgs false
set_option maxRecDepth 20000
namespace Go.Proofs.YthcdjconlfdidaaGreatDoor
open Go Go.Aw Go.Proofs
def kW (v:BV) (i:Nat):Nat:=if v.kind=4 then (BV.wText (v.keys.getD i [])).length else 0
def kidW (v:BV) (i:Nat):Nat:=((v.kids.getD i .zero).write).length
def preW (v:BV):Nat→Nat
 |0=>1
 |i+1=>preW v i+kW v i+kidW v i
theorem split_writeL:∀(l:List BV) (i:Nat) (h:i<l.length),BV.writeL l=BV.writeL (l.take i)++(l[i].write++BV.writeL (l.drop (i+1)))
 |v::l,0,h=>by simp [BV.writeL]
 |v::l,i+1,h=>by
  have:=split_writeL l i (by simpa using h)
  simp only [List.take_succ_cons,List.drop_succ_cons,List.getElem_cons_succ,BV.writeL,List.append_assoc]
  rw [this]
theorem split_writeD:∀(ks:List Tx) (l:List BV) (hkl:ks.length=l.length) (i:Nat) (h:i<l.length),BV.writeD ks l=BV.writeD (ks.take i) (l.take i)++(BV.wText (ks[i]'(by omega))++(l[i].write++BV.writeD (ks.drop (i+1)) (l.drop (i+1))))
 |k::ks,v::l,hkl,0,h=>by simp [BV.writeD]
 |k::ks,v::l,hkl,i+1,h=>by
  have:=split_writeD ks l (by simpa using hkl) i (by simpa using h)
  simp only [List.take_succ_cons,List.drop_succ_cons,List.getElem_cons_succ,BV.writeD,List.append_assoc]
  rw [this]
 |[],[],hkl,i,h=>absurd h (by simp)
theorem kW3 {n:Int} {s:Tx} {kids:List BV} {keys:List Tx} (i:Nat):kW (.mk 3 n s kids keys) i=0:=if_neg (show ¬(3:Int)=4 by decide)
theorem kW4 {n:Int} {s:Tx} {kids:List BV} {keys:List Tx} (i:Nat):kW (.mk 4 n s kids keys) i=(BV.wText (keys.getD i [])).length:=if_pos (show (4:Int)=4 by rfl)
theorem preW_list {n:Int} {s:Tx} {kids:List BV} {keys:List Tx}:∀(i:Nat),i≤kids.length→preW (.mk 3 n s kids keys) i=1+(BV.writeL (kids.take i)).length
 |0,h=>by simp [preW,BV.writeL]
 |i+1,h=>by
  rw [preW,preW_list i (by omega),writeL_snoc kids i (by omega),List.length_append,kW3,kidW]
  simp only [BV.kids]
  rw [List.getD_eq_getElem?_getD,List.getElem?_eq_getElem (by omega)]
  simp only [Option.getD_some]
  omega
theorem preW_dict {n:Int} {s:Tx} {kids:List BV} {keys:List Tx} (hkl:keys.length=kids.length):∀(i:Nat),i≤kids.length→preW (.mk 4 n s kids keys) i=1+(BV.writeD (keys.take i) (kids.take i)).length
 |0,h=>by simp [preW,BV.writeD]
 |i+1,h=>by
  rw [preW,preW_dict hkl i (by omega),writeD_snoc keys kids hkl i (by omega) (by omega),List.length_append,List.length_append,kW4,kidW]
  simp only [BV.kids,BV.keys]
  rw [List.getD_eq_getElem?_getD,List.getElem?_eq_getElem (by omega),List.getD_eq_getElem?_getD,List.getElem?_eq_getElem (by omega)]
  simp only [Option.getD_some]
  omega
theorem stepR_kind {v:BV} {t:Tx} (h:(stepR v t).2=0):v.kind=3∨v.kind=4:=by
 unfold stepR at h
 by_cases h4:v.kind=4
 ·exact .inr h4
 ·rw [if_neg h4] at h
  by_cases h3:v.kind=3
  ·exact .inl h3
  ·rw [if_neg h3] at h;cases h
theorem kid_at {v:BV} (hf:v.form=true) (hk:v.kind=3∨v.kind=4) {i:Nat} (hi:i<v.kids.length):∃A B,v.write=A++((v.kids[i]).write++B)∧A.length=preW v i+kW v i:=by
 obtain ⟨k,n,s,kids,keys⟩:=v
 dsimp only [BV.kids] at hi ⊢
 rcases hk with hk|hk
 ·dsimp only [BV.kind] at hk
  subst hk
  refine ⟨108::BV.writeL (kids.take i),BV.writeL (kids.drop (i+1))++[101],?_,?_⟩
  ·rw [BV.write,if_neg (by decide),if_neg (by decide),if_pos rfl,split_writeL kids i hi]
   simp
  ·rw [preW_list i (by omega),kW3]
   simp only [List.length_cons];omega
 ·dsimp only [BV.kind] at hk
  subst hk
  have hkl:=(form_asc hf rfl).2
  refine ⟨100::(BV.writeD (keys.take i) (kids.take i)++BV.wText (keys[i]'(by omega))),BV.writeD (keys.drop (i+1)) (kids.drop (i+1))++[101],?_,?_⟩
  ·rw [BV.write,if_neg (by decide),if_neg (by decide),if_neg (by decide),split_writeD keys kids hkl i hi]
   simp
  ·rw [preW_dict hkl i (by omega),kW4]
   rw [List.getD_eq_getElem?_getD,List.getElem?_eq_getElem (by omega)]
   simp only [List.length_cons,List.length_append,Option.getD_some];omega
theorem form_kid {v:BV} (h:v.form=true) {c:BV} (hc:c∈v.kids):c.form=true:=by
 obtain ⟨k,n,s,kids,keys⟩:=v
 rw [form_shape,Bool.and_eq_true] at h
 exact BV.formL_iff.1 h.2 c hc
theorem getD_mem {l:List BV} {i:Nat} (h:i<l.length):l.getD i .zero=l[i]:=by
 rw [List.getD_eq_getElem?_getD,List.getElem?_eq_getElem h];rfl
def digG:Nat→List UInt8→Option Nat
 |n,[]=>some n
 |n,c::r=>if c.toNat<48∨57<c.toNat then none else if (1000 - (c.toNat - 48)) / 10<n then none else digG (n*10+(c.toNat - 48)) r
def digN (t:List UInt8):Int:=if t=[]∨(t.head? =some 48∧1<t.length) then -1 else match digG 0 t with|some m=>(m:Nat)|none=> -1
theorem digG_le:∀(t:List UInt8) (n m:Nat),n≤1000→digG n t=some m→m≤1000
 |[],n,m,hn,h=>by rw [digG] at h;cases h;exact hn
 | c::r,n,m,hn,h=>by
  rw [digG] at h
  split at h
  ·cases h
  ·split at h
   ·cases h
   ·exact digG_le r _ m (by omega) h
theorem u8_of {c:UInt8} (h0:48≤c.toNat) (h1:c.toNat≤57):UInt8.ofNat (48+(c.toNat - 48))=c:=by
 rw [show 48+(c.toNat - 48)=c.toNat by omega]
 exact UInt8.ofNat_toNat
theorem dec_snoc {n:Nat} {c:UInt8} (hn:0<n) (h0:48≤c.toNat) (h1:c.toNat≤57):Lib.decDigits (n*10+(c.toNat - 48))=Lib.decDigits n++[c]:=by
 rw [Lib.decDigits,dif_neg (by omega),show (n*10+(c.toNat - 48)) / 10=n by omega,show (n*10+(c.toNat - 48))%10=c.toNat - 48 by omega,u8_of h0 h1]
theorem digG_dec:∀(t:List UInt8) (n m:Nat),0<n→digG n t=some m→Lib.decDigits m=Lib.decDigits n++t
 |[],n,m,hn,h=>by rw [digG] at h;cases h;simp
 | c::r,n,m,hn,h=>by
  rw [digG] at h
  split at h
  ·cases h
  ·rename_i hc
   split at h
   ·cases h
   ·rw [digG_dec r _ m (by omega) h,dec_snoc hn (by omega) (by omega)]
    simp
theorem digN_dec {t:List UInt8} {m:Nat} (h:digN t=(m:Nat)):t=Lib.decDigits m:=by
 unfold digN at h
 split at h
 ·omega
 ·rename_i hc
  split at h
  ·rename_i u hu
   have:u=m:=by omega
   subst this
   cases t with
   |nil=>simp at hc
   | cons c r=>
    rw [digG] at hu
    split at hu
    ·cases hu
    ·rename_i hd
     split at hu
     ·cases hu
     ·rw [Nat.zero_mul,Nat.zero_add] at hu
      by_cases h0:c=48
      ·subst h0
       have:r=[]:=by
        cases r with
        |nil=>rfl
        |cons c2 r2=>simp at hc
       subst this
       rw [digG] at hu
       cases hu
       rw [Lib.decDigits,dif_pos (by decide)];rfl
      ·have hne:c.toNat≠48:=fun e=>h0 (by rw [← UInt8.ofNat_toNat (x:=c),e];rfl)
       rw [digG_dec r _ u (by omega) hu,Lib.decDigits_one (by omega),u8_of (by omega) (by omega)]
       rfl
  ·omega
theorem digN_low {t:List UInt8}:digN t= -1∨∃m:Nat,digN t=(m:Nat)∧m≤1000:=by
 unfold digN
 split
 ·exact .inl rfl
 ·split
  ·rename_i u hu
   exact .inr ⟨u,rfl,digG_le _ _ _ (by omega) hu⟩
  ·exact .inl rfl
theorem digN_of:∀m,m<1001→digN (Lib.decDigits m)=(m:Nat):=by
 have h:((List.range 1001).all fun m=>digN (Lib.decDigits m)==((m:Nat):Int))=true:=by kernel_rfl
 intro m hm
 have:=List.all_eq_true.1 h m (List.mem_range.2 hm)
 exact beq_iff_eq.1 this
theorem nAt_dig (m:Nat) (hm:m≤1000) (t:Tx):nAt m t=if digN t<0∨(m:Int)≤digN t then none else some (digN t).toNat:=by
 rcases digN_low (t:=t) with h|⟨u,h,hu⟩
 ·rw [h,if_pos (by omega)]
  exact nAt_none fun v hv e=>by
   have:=digN_of v (by omega)
   rw [← e,h] at this;omega
 ·rw [h]
  have ht:=digN_dec h
  by_cases hl:u<m
  ·rw [if_neg (by omega),Int.toNat_natCast]
   exact nAt_some (by omega) hl ht
  ·rw [if_pos (by omega)]
   refine nAt_none fun v hv e=> ?_
   have:=digN_of v (by omega)
   rw [← e,h] at this;omega
end Go.Proofs.YthcdjconlfdidaaGreatDoor

set_option linter.unusedVariables false
set_option linter.unusedSimpArgs false
set_option maxRecDepth 20000
set_option maxHeartbeats 4000000
namespace Go.Aw
theorem AC.freeze {P:Program} {f:FuncId} {args:List Value} {H:AHeap} {K:ARes→AHeap→Prop} {j:Nat} {cs:List Value} {k:CK} (hj:H[j]? =some (.cells cs k)) (h:AC P f args (H.set j (.cells cs {k with own:=false})) K):AC P f args H K:=
 fun c w vargs hh hv=>(h c w vargs (hh.freeze hj) hv).mono fun e w' hp=>by
  obtain ⟨r,c',H',h1,h2,h3,h4⟩:=hp
  rw [List.length_set] at h4
  exact ⟨r,c',H',h1,h2,h3,Trans.trans ⟨fun _ _ _ h=>h,rfl,rfl,rfl,Nat.le_refl _,fun _ _ _=>rfl,fun b h=> .inl (h.freeze hj)⟩ h4⟩
end Go.Aw
namespace Go.Proofs.YthcdjconlfdidaaGreatDoor
open Go Go.Aw Go.Proofs
def exS:List UInt8:=[100,49,58,97,105,45,51,101,49,58,98,108,50,58,120,121,101,101]
def exK:BV:= .mk 2 0 [120,121] [] []
def exL:BV:= .mk 3 0 [] [exK] []
def exV:BV:= .mk 4 0 [] [.mk 1 (-3) [] [] [],exL] [[97],[98]]
theorem ex_parse:parseR exS=(exV,0):=by kernel_rfl
theorem ex_fine:Fine exV∧formatR exV=(exS,0)∧exV.valid=true:=by
 obtain ⟨h1,h2,h3⟩:=parse_inv ex_parse
 have hf:exV.form=true:=by
  unfold BV.valid at h1
  simp only [Bool.and_eq_true] at h1
  exact h1.1.1.1
 have hl:exV.write.length=18:=by rw [← h3];rfl
 refine ⟨⟨sz_of_form _ hf (by omega),h2,by omega⟩,?_,h1⟩
 unfold formatR
 rw [if_pos h1,←h3]
theorem ex_get:getR exV [[98],[48]]=(exK,0):=by
 unfold getR
 rw [if_pos ex_fine.2.2]
 have s1:stepR exV [98]=(1,0):=by kernel_rfl
 have s2:stepR exL [48]=(0,0):=by
  have:nAt exL.kids.length [48]=some 0:=nAt_some (by decide) (by decide) (by rw [dd_lt 0 (by omega)];rfl)
  unfold stepR
  rw [if_neg (by decide),if_pos (by rfl),this];rfl
 rw [goR,s1,if_pos rfl]
 show goR exL [[48]]=_
 rw [goR,s2,if_pos rfl]
 show goR exK []=_
 rw [goR]
theorem awake (H:AHeap) (hG:GlobB H):AC Tryz.prog 6 [] H (fun r H2=>r= .ret (.bool true)∧Frm [] H H2):=by
 have hP:=parse exS H
 rw [ex_parse] at hP
 unfold exS at hP
 refine AC.enter Tryz.func6 rfl (by kernel_rfl) 41 rfl [.tmp 0] rfl (by simp) fun hsc B=> ?_
 repeat first|with_reducible refine kc ?_|((with_reducible first|refine kr ?_ ?_|refine kt ?_ ?_);exact rfl)|((with_reducible refine kf ?_ ?_);exact rfl)|simp only [go_sem,sevalprocAttr,reduceCtorEq]|simp (disch:=omega) only [wz]
 refine AC.mono hP ?_
 rintro res H1 ⟨cs,rfl,hf1,hR1⟩
 dsimp only at hR1
 have hc5:=hR1.len
 have hfl:=RdV_flat hR1
 have htk:List.take 5 cs=cs:=List.take_of_length_le (by omega)
 have hput:putCells [.int .i64 0,.int .i64 0,.string (bs []),.slice none 0 0,.slice none 0 0] 0 cs=cs:=by
  match cs,hc5 with
  |[_,_,_,_,_],_=>rfl
 obtain ⟨H2,hH2⟩:∃H2:AHeap,H2=H1++ [.cells cs ⟨27,0,true,0,none⟩,.cells [.string (bs [98]),.string (bs [48])] ⟨9,0,true,0,none⟩]:=⟨_,rfl⟩
 have hf2:Frm [] H H2:=by rw [hH2];exact hf1.more
 have hl2:H2.length=H1.length+2:=by rw [hH2];simp
 have hb2:H2[H1.length]? =some (.cells cs ⟨27,0,true,0,none⟩):=by rw [hH2,hget0 rfl];rfl
 have hp2:H2[H1.length+1]? =some (.cells [.string (bs [98]),.string (bs [48])] ⟨9,0,true,0,none⟩):=by rw [hH2,hgetk rfl];rfl
 have hR2:RdV H2 exV cs:=by rw [hH2];exact hR1.kept (.more _ _)
 obtain ⟨H3,hH3⟩:∃H3:AHeap,H3=H2.set (H1.length+1) (.cells [.string (bs [98]),.string (bs [48])] ⟨9,0,false,0,none⟩):=⟨_,rfl⟩
 have hl1:=hf1.1
 have hf3:Frm [] H H3:=by rw [hH3];exact Frm.set hf2 (.inr (by omega))
 have hk3:Kept H2 H3:=by rw [hH3];exact Kept.set hp2 rfl _
 have hb3:H3[H1.length]? =some (.cells cs ⟨27,0,true,0,none⟩):=by rw [hH3,List.getElem?_set_ne (by omega)];exact hb2
 have hp3:H3[H1.length+1]? =some (.cells [.string (bs [98]),.string (bs [48])] ⟨9,0,false,0,none⟩):=by rw [hH3,List.getElem?_set_self (by omega)]
 have hR3:=hR2.kept hk3
 have hPk:RdK H3 1 (.slice (some ⟨H1.length+1,0,none⟩) 2 2) (keyC [[98],[48]]):=by
  refine .inr ⟨_,0,2,_,_,rfl,Nat.le_refl _,hp3,rfl,.inr rfl,by decide,fun j r hj=> ?_⟩
  match j,hj with
  |0,hj=>cases hj;rfl
  |1,hj=>cases hj;rfl
 have hG3:GlobB H3:=hG.frm hf3
 have hX:=getW exV [[98],[48]] ex_fine.1 (by decide) (by decide) H3 hG3 cs hR3 _ hPk
 rw [ex_get] at hX
 repeat first|with_reducible refine kc ?_|((with_reducible first|refine kr ?_ ?_|refine kt ?_ ?_);exact rfl)|((with_reducible refine kf ?_ ?_);exact rfl)|simp only [go_sem,sevalprocAttr,reduceCtorEq,hc5,hfl,hput,htk]|simp (disch:=omega) only [wz]
 rw [← hH2]
 refine AC.freeze hp2 ?_
 dsimp only
 rw [← hH3]
 refine AC.mono hX ?_
 rintro res H4 ⟨cs4,rfl,hf4,hR4⟩
 dsimp only at hR4
 have hb4:=hf4.get hb3 (by simp)
 have hV4:=hR3.kept (Kept.frm hf4 (fun x hx=>by cases hx))
 have hf04:Frm [] H H4:=hf3.trans hf4 (fun x hx=>by cases hx)
 have hc54:=hR4.len
 have hfl4:=RdV_flat hR4
 have hput4:putCells [.int .i64 0,.int .i64 0,.string (bs []),.slice none 0 0,.slice none 0 0] 0 cs4=cs4:=by
  match cs4,hc54 with
  |[_,_,_,_,_],_=>rfl
 have hl4:=hf4.1
 have hl3:H3.length=H1.length+2:=by rw [hH3,List.length_set,hl2]
 obtain ⟨H5,hH5⟩:∃H5:AHeap,H5=H4++ [.cells cs4 ⟨27,0,true,0,none⟩]:=⟨_,rfl⟩
 have hb5:H5[H1.length]? =some (.cells cs ⟨27,0,true,0,none⟩):=by rw [hH5,hgetl (by omega)];exact hb4
 have hx5:H5[H4.length]? =some (.cells cs4 ⟨27,0,true,0,none⟩):=by rw [hH5,hget0 rfl];rfl
 have hf05:Frm [] H H5:=by rw [hH5];exact hf04.more
 have hV5:RdV H5 exV cs:=by rw [hH5];exact hV4.kept (.more _ _)
 have hF:=format_ exV ex_fine.1 H5 cs hV5 (hG.frm hf05).tab
 rw [ex_fine.2.1] at hF
 unfold exK RdV at hR4
 obtain ⟨vk,vs,css,rfl,-,-,-⟩:=hR4
 repeat first|with_reducible refine kc ?_|((with_reducible first|refine kr ?_ ?_|refine kt ?_ ?_);exact rfl)|((with_reducible refine kf ?_ ?_);exact rfl)|simp only [go_sem,sevalprocAttr,reduceCtorEq,hc54,hfl4,hput4]|simp (disch:=omega) only [wz]
 rw [← hH5]
 repeat first|with_reducible refine kc ?_|((with_reducible first|refine kr ?_ ?_|refine kt ?_ ?_);exact rfl)|((with_reducible refine kf ?_ ?_);exact rfl)|simp only [go_sem,sevalprocAttr,reduceCtorEq,hb5,hc5,htk]|simp (disch:=omega) only [wz]
 refine AC.mono hF ?_
 rintro res H6 ⟨rfl,hf6⟩
 have hx6:=hf6.get hx5 (by simp)
 dsimp only
 unfold exS
 repeat first|with_reducible refine kc ?_|((with_reducible first|refine kr ?_ ?_|refine kt ?_ ?_);exact rfl)|((with_reducible refine kf ?_ ?_);exact rfl)|simp only [go_sem,sevalprocAttr,reduceCtorEq,hx6,exists_eq_left]|simp (disch:=omega) only [wz]
 exact ⟨_,_,.refl _ _ _,rfl,hf05.trans hf6 (fun x hx=>by cases hx)⟩
end Go.Proofs.YthcdjconlfdidaaGreatDoor
