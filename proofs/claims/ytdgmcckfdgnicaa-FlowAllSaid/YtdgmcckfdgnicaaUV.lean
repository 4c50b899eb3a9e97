/-
 Send.
-/
import Derived.Test.YtdgmcckfdgnicaaURM
set_option linter.unusedVariables false
set_option linter.unusedSimpArgs false
set_option maxRecDepth 20000
set_option maxHeartbeats 8000000
namespace Go.Proofs.Ytdgmcckfdgnicaa
open Go Go.Aw Go.Proofs
def SendP (H:AHeap) (e:Nat) (q:Q) (x:Int×E×List Sg) (r:ARes) (H2:AHeap):Prop:=
 ∃q2 v js,r= .ret (.tuple ⟨[v,.int .i64 x.1]⟩)∧EndI H2 e x.2.1 q2∧Frm (q.names e) H H2∧ (∀ j∈q2.names e,j∈q.names e∨H.length≤j)∧RowS H2 v x.2.2 js∧∀j∈js,H.length≤j∧j∉q2.names e
theorem overdueR_same (s:E):(overdueR s).waiting=s.waiting∧(overdueR s).flight.length=s.flight.length∧(overdueR s).kept=s.kept∧(overdueR s).room=s.room∧(overdueR s).ready=s.ready∧(overdueR s).base=s.base∧∀p∈(overdueR s).flight,∃p0∈s.flight,p.body=p0.body:=by
 unfold overdueR
 split
 ·exact ⟨rfl,rfl,rfl,rfl,rfl,rfl,fun p hp=>⟨p,hp,rfl⟩⟩
 ·split
  ·exact ⟨rfl,rfl,rfl,rfl,rfl,rfl,fun p hp=>⟨p,hp,rfl⟩⟩
  ·refine ⟨rfl,by simp [allLost],rfl,rfl,rfl,rfl,fun p hp=> ?_⟩
   simp only [allLost,List.mem_map] at hp
   obtain ⟨p0,h1,rfl⟩:=hp
   exact ⟨p0,h1,rfl⟩
def remC (c:Option Nat) (s:E):Nat:=match c with|some i=>s.flight.length - i+s.waiting.length|none=>s.waiting.length
structure SendI (H:AHeap) (e bx r:Nat) (q:Q) (L:ALoop) (B:Nat) (q4:Q) (js4:List Nat) (F:E×List Sg) (c:Option Nat) (s:E) (q':Q) (H':AHeap) (v:Value) (js:List Nat) (o:List Sg):Prop where
 sj:SJ H e bx r q s o H' q' v js
 jd:H'[B]? =some (.cells [ptr e] ⟨29,0,true,0,none⟩)
 lp:H'[B+1]? =some (.loop L)
 nm:∀j∈q'.names e,j∈q4.names e∨B+2≤j
 nj:∀j∈js,j∈js4∨B+2≤j
 due:DueOk s
 made:MadeOk s
 len:s.flight.length+s.waiting.length<100000
 out:o.length+remC c s<200000
 goes:goC c s o=F
def SendJ (H:AHeap) (e:Nat) (q:Q) (ds:List ADef) (s:E) (o:List Sg) (st:ASt):Prop:=
 ∃bx r H4 q4 v js,SJ H e bx r q s o H4 q4 v js∧st=⟨[(2,ptr bx),(7,ptr r)],ds,H4⟩
def SendK (H:AHeap) (e:Nat) (q:Q) (F:E×List Sg) (st:ASt):Prop:=SendJ H e q [.mark] F.1 F.2 st∧F.2.length<1000000∧MadeOk F.1
theorem Send {H:AHeap} {e:Nat} {s:E} {q:Q} (h:EndI H e s q) (now:Int) (hD:DueOk s) (hM:MadeOk s) (ho:s.outs<1000) (hl:s.flight.length+s.waiting.length<100000):
  AC Try.prog 16 [ptr e,.int .i64 now] H (SendP H e q (sendR s now)):=by
 have hm:=h.more [.cells [ptr e] ⟨29,0,true,0,none⟩]
 have hcl:=lt_of_get h.cell
 have hte:=tell hm now
 unfold sendR
 by_cases h0:atR s now=0
 ·rw [if_pos h0]
  rw [if_pos h0,h0] at hte
  have hE1:=hm.put {s with now:=now} q.told rfl rfl rfl
  obtain ⟨H1,hH1⟩:∃H1,H1=(H++[AObj.cells [ptr e] ⟨29,0,true,0,none⟩]).set e (.cells (endC {s with now:=now} q) kE):=⟨_,rfl⟩
  rw [← hH1] at hE1 hte
  have hF1:Frm (q.names e) H H1:=by rw [hH1];exact Frm.app.set (.inl (by simp [Q.names]))
  have hb1:H1[H.length]? =some (.cells [ptr e] ⟨29,0,true,0,none⟩):=by rw [hH1,List.getElem?_set_ne (by omega)];simp
  have hl1:H1.length=H.length+1:=by rw [hH1];simp
  clear hH1
  generalize hs1:({s with now:=now}:E)=s1 at hE1 ⊢
  have hD1:DueOk s1:=by subst hs1;exact ⟨hD.fl,hD.wl,hD.fb,hD.wb⟩
  have hM1:MadeOk s1:=hM.of (by subst hs1;rfl) (by subst hs1;rfl) (by subst hs1;rfl) (by subst hs1;rfl)
  have ho1:s1.outs<1000:=by subst hs1;exact ho
  have hl1':s1.flight.length+s1.waiting.length<100000:=by subst hs1;exact hl
  have hc1:H1[e]? =some (.cells (endC s1 q) kE):=hE1.cell
  simp only [endC] at hc1
  clear hs1
  obtain ⟨s2,hs2⟩:∃s2,s2=over2 s1:=⟨_,rfl⟩
  rw [← hs2]
  refine AC.enter Try.func16 rfl (by kernel_rfl) 120 rfl [.tmp 4,.tmp 5] rfl (by simp) fun hsc B=> ?_
  repeat first|with_reducible refine AWP.seqE (x:= .seq (.region 4 _ _) _) (fun st=>∃H2 t,EndI H2 e s2 {q with told:=t}∧Frm (q.names e) H1 H2∧st=⟨[(2,ptr H.length)],[],H2⟩) ?_ ?_|with_reducible refine hte.use ?_|refine kw2 hb1 hl1 ?_|exact kwy
  ·by_cases h5:s1.state=5
   ·have h5':(s1.state != 5)=false:=by simp [h5]
    repeat first|refine kw4 hc1 hb1 hl1 h5' ?_|exact kwy
    refine ⟨_,⟨H1,q.told,?_,Frm.refl _ _,rfl⟩,Weak.env (by simp [envIn,lk_cons,wth_some])⟩
    rw [hs2];unfold over2;rw [if_pos h5];exact hE1
   ·have h5':(s1.state != 5)=true:=by simp [h5]
    repeat first|refine kw4 hc1 hb1 hl1 h5' ?_|exact kwy
    refine AC.mono (overdue hE1 hD1.fl ho1) ?_
    rintro r H2 ⟨rfl,t,hE2,hF2⟩
    repeat first|refine kw0 ?_|exact kwy
    refine ⟨_,⟨H2,t,?_,hF2,rfl⟩,Weak.env (by simp [envIn,lk_cons,wth_some])⟩
    rw [hs2];unfold over2;rw [if_neg h5];exact hE2
  ·rintro _ ⟨H2,t,hE2,hF2,rfl⟩
   have hb2:=hF2.get hb1 (fun hm=>by have:=h.lt _ hm;omega)
   have hF12:Frm (q.names e) H H2:=hF1.trans hF2 (fun j hj=> .inl hj)
   have hD2:DueOk s2∧MadeOk s2∧s2.flight.length+s2.waiting.length<100000:=by
    rw [hs2];unfold over2
    split
    ·exact ⟨hD1,hM1,hl1'⟩
    ·obtain ⟨o1,o2,o3,o4,o5,o6,o7⟩:=overdueR_same s1
     refine ⟨⟨by rw [o2];exact hD1.fl,by rw [o1];exact hD1.wl,fun p hp=> ?_,by rw [o1];exact hD1.wb⟩,hM1.of o4 o5 o3 o6,by rw [o1,o2];exact hl1'⟩
     obtain ⟨p0,g1,g2⟩:=o7 p hp
     rw [g2];exact hD1.fb p0 g1
   obtain ⟨hD2,hM2,hl2⟩:=hD2
   clear hs2 hE1 hF1 hF2 hb1 hte hD1 hM1 ho1 hl1' hc1
   have hlH2:=hF12.1
   have hbl:=lt_of_get hb2
   have hJ2:SJ H e H.length H2.length q s2 [] (H2++ [.cells [.slice none 0 0] ⟨31,0,true,0,none⟩]) {q with told:=t} (.slice none 0 0) []:=
    ⟨hE2.more _,hF12.more,fun j hj=> .inl hj,by rw [hgetl hbl];exact hb2,by simp,RowS.nil _,by simp,fun hm=>by have:=h.lt _ hm;omega,fun hm=>by have:=hE2.lt _ hm;omega,by omega,by omega,by omega⟩
   have hc2:=hJ2.end_.cell
   have hcl2:=lt_of_get hc2
   have hcl2':=lt_of_get hE2.cell
   simp only [endC] at hc2
   repeat first|with_reducible refine AWP.seqE (x:= .seq (.region 7 _ _) _) (SendJ H e q [] {s2 with replies:=false} (if s2.replies=true then [madeR {s2 with replies:=false} 5 s2.next []] else [])) ?_ ?_|refine kw0 ?_|exact kwy
   ·cases hrep:s2.replies with
    |false=>
     have hcX:=hJ2.bxo
     repeat first|refine kw3 hc2 hcX hrep ?_|exact kwy
     have hs0:({s2 with replies:=false}:E)=s2:=by cases s2;simp only at hrep;rw [hrep]
     exact ⟨⟨[(2,ptr H.length),(7,ptr H2.length)],[],_⟩,⟨H.length,H2.length,_,_,_,_,by rw [hs0];exact hJ2,rfl⟩,Weak.env (by simp [envIn,lk_cons,wth_some])⟩
    | true=>
     have hcX:=hJ2.bxo
     have hJ3:=hJ2.put {s2 with replies:=false} rfl rfl rfl
     obtain ⟨Ha,hHa⟩:∃Ha,Ha=(H2++[AObj.cells [.slice none 0 0] ⟨31,0,true,0,none⟩]).set e (.cells (endC {s2 with replies:=false} {q with told:=t}) kE):=⟨_,rfl⟩
     rw [← hHa] at hJ3
     have hHa':=hHa.symm
     simp only [endC] at hHa'
     clear hHa
     have hmk:=madeE hJ3.end_ (hM2.of rfl rfl rfl rfl) 5 s2.next []
     obtain ⟨v2,H5,js2,hJ4,_,_,hr5,hv2,hv2f,hrl,happ⟩:=hJ3.pushX (madeR {s2 with replies:=false} 5 s2.next []) [.cells (madeR {s2 with replies:=false} 5 s2.next []).c ⟨44,0,true,0,none⟩] (by simp)
     have hbx3:=hJ3.bxo
     have hr3:=hJ3.ro
     have hc3:=hJ3.end_.cell
     have hrl3:=lt_of_get hr3
     have hbl3:=lt_of_get hbx3
     have hcl3:=lt_of_get hc3
     simp only [endC] at hc3
     generalize madeR {s2 with replies:=false} 5 s2.next []=x at hmk hJ4 happ ⊢
     unfold Sg.v at hmk
     unfold flat at hv2f
     have hxc:cellsOf (.agg ⟨x.c⟩)=x.c:=rfl
     repeat first|refine kw5 hc2 hcX hrep hcl2 hHa' ?_|exact kwy
     apply AWP.regionX [8,9,10] [(0,1),(0,0),(0,0),(0,0),(0,0),(0,0),(0,0),(0,0),(0,0),(1,0),(2,0)] [31,32,33,34,35,36,37,38,39,40] [_,_,_] [(31,_),(32,_),(33,_),(34,_),(35,_),(36,_),(37,_),(38,_),(39,_),(40,_)]
     ·kernel_rfl
     ·kernel_rfl
     ·kernel_rfl
     ·kernel_rfl
     ·rfl
     ·simp only [eachB,runB]
      repeat' with_reducible refine And.intro ?_ ?_
      all_goals try (
       repeat' first
        |with_reducible refine And.intro ?_ ?_|with_reducible refine kc ?_|((with_reducible first|refine kr ?_ ?_|refine kt ?_ ?_);exact rfl)|((with_reducible refine kf ?_ ?_);exact rfl)|with_reducible (first|refine hmk.use ?_|refine happ _ ?_)|simp only [go_sem,sevalprocAttr,reduceCtorEq,hbx3,hr3,hc3,hgetl,hrl3,hbl3,hcl3,hxc,hr5,hrl,hv2,hv2f,Sg.c9,Sg.cput,Sg.ctake,Sg.cflat,stepS,hpL,List.getD_cons_zero,List.getD_cons_succ,List.contains_cons,List.contains_nil,and_imp,forall_eq,implies_true,List.map_cons,List.map_nil]|simp (disch:=omega) only [wz]
        |exact rfl
       done)
      all_goals (
       repeat' first
        |with_reducible refine And.intro ?_ ?_|with_reducible refine kc ?_|((with_reducible first|refine kr ?_ ?_|refine kt ?_ ?_);exact rfl)|((with_reducible refine kf ?_ ?_);exact rfl)|with_reducible (first|refine hmk.use ?_|refine happ _ ?_)|simp only [go_sem,sevalprocAttr,reduceCtorEq,hbx3,hr3,hc3,hgetl,hrl3,hbl3,hcl3,hxc,hr5,hrl,hv2,hv2f,Sg.c9,Sg.cput,Sg.ctake,Sg.cflat,stepS,hpL,List.getD_cons_zero,List.getD_cons_succ,List.contains_cons,List.contains_nil,and_imp,forall_eq,implies_true,List.map_cons,List.map_nil]|simp (disch:=omega) only [wz]
        |exact rfl)
     exact ⟨⟨[(2,ptr H.length),(7,ptr H2.length)],[],_⟩,⟨H.length,H2.length,_,_,_,_,hJ4,rfl⟩,Weak.env (by simp [envIn,lk_cons,wth_some])⟩
   ·rintro _ ⟨bx,r,H4,q4,v,js,hJ,rfl⟩
    have hsend:send1 s2=send2 {s2 with replies:=false} (if s2.replies=true then [madeR {s2 with replies:=false} 5 s2.next []] else []):=by
     unfold send1
     cases hrep:s2.replies with
     |false=>
      have hs0:({s2 with replies:=false}:E)=s2:=by cases s2;simp only at hrep;rw [hrep]
      rw [if_neg (by decide),if_neg (by decide),hs0]
     |true=>rw [if_pos rfl,if_pos rfl];rfl
    rw [hsend]
    have ho3:(if s2.replies=true then [madeR {s2 with replies:=false} 5 s2.next []] else []).length≤1:=by split<;> simp
    have hD3:DueOk {s2 with replies:=false}:=⟨hD2.fl,hD2.wl,hD2.fb,hD2.wb⟩
    have hM3:MadeOk {s2 with replies:=false}:=hM2.of rfl rfl rfl rfl
    have hl3:({s2 with replies:=false}:E).flight.length+({s2 with replies:=false}:E).waiting.length<100000:=hl2
    generalize (if s2.replies=true then [madeR {s2 with replies:=false} 5 s2.next []] else [])=o3 at hJ ho3 ⊢
    generalize ({s2 with replies:=false}:E)=s3 at hJ hD3 hM3 hl3 ⊢
    clear hsend hD2 hM2 hl2 hJ2 hc2 hcl2 hcl2' hbl hlH2 hF12 hb2 hE2
    have hbx4:=hJ.bxo
    have hr4:=hJ.ro
    have hc4:=hJ.end_.cell
    have hrl4:=lt_of_get hr4
    have hbl4:=lt_of_get hbx4
    have hcl4:=lt_of_get hc4
    simp only [endC] at hc4
    have hre:e≠r:=fun hx=>hJ.rn (by rw [← hx];simp [Q.names])
    unfold send2
    by_cases h50:s3.state=5∨s3.state=0
    ·rw [if_pos h50]
     have hJ5:=hJ.put {s3 with answer:=false} rfl rfl rfl
     obtain ⟨H5,hH5⟩:∃H5,H5=H4.set e (.cells (endC {s3 with answer:=false} q4) kE):=⟨_,rfl⟩
     rw [← hH5] at hJ5
     have hH5':=hH5.symm
     simp only [endC] at hH5'
     have hr5:=hJ5.ro
     have fin:SendP H e q (0,{s3 with answer:=false},o3) (.ret (.tuple ⟨[v,.int .i64 0]⟩)) H5:=⟨_,_,_,rfl,hJ5.end_,hJ5.frm,hJ5.names,hJ5.row,fun j hj=>⟨(hJ5.jsn j hj).1,(hJ5.jsn j hj).2.1⟩⟩
     by_cases h5:s3.state=5
     ·have h5':(s3.state==5)=true:=by simp [h5]
      repeat first|refine kw6 hbx4 hc4 hcl4 h5' hH5' hr5 ?_|exact kwy
      exact ⟨_,_,.refl _ _ _,fin⟩
     ·have h5':(s3.state==5)=false:=by simp [h5]
      have h0':(s3.state==0)=true:=by simp;omega
      repeat first|refine kw7 hbx4 hc4 hcl4 h5' h0' hH5' hr5 ?_|exact kwy
      exact ⟨_,_,.refl _ _ _,fin⟩
    ·rw [if_neg h50]
     have h5':(s3.state==5)=false:=by simp;omega
     have h0':(s3.state==0)=false:=by simp;omega
     repeat first|with_reducible refine AWP.seqE (x:= .seq (.region 13 _ _) (.block 0 _)) (SendK H e q (dueGo s3 o3)) ?_ ?_|refine kw5 hbx4 hc4 hcl4 h5' h0' ?_|exact kwy
     ·repeat first|with_reducible refine (due _ _).use ?_|refine kw1 hbx4 ?_|exact kwy
      have hfb:∃fn,Try.prog.funcs[59]? =some fn∧fn.body.isSome=true∧(fn.name== "runtime.NumGoroutine")=false:=⟨_,Try.func59,by kernel_rfl,by kernel_rfl⟩
      obtain ⟨fnd,f1,f2,f3⟩:=hfb
      have hold:=hJ.old
      have hfl:=hJ.frm.1
      refine AWP.rangeL (f:=59) (first:=[]) (cap:=[ptr H4.length]) f1 rfl (by simp;omega) (by simp only [go_sem,sevalprocAttr,reduceCtorEq]) f2 f3 fun L hL=> ?_
      have hlen5:(H4++[AObj.cells [ptr e] ⟨29,0,true,0,none⟩]).length=H4.length+1:=by simp
      have h0I:SendI H e bx r q L H4.length q4 js (dueGo s3 o3) (some 0) s3 q4 ((H4++[AObj.cells [ptr e] ⟨29,0,true,0,none⟩])++ [.loop L]) v js o3:=
       ⟨(hJ.more _).more _,by simp,by rw [← hlen5];simp,fun j hj=> .inl hj,fun j hj=> .inl hj,hD3,hM3,hl3,by simp only [remC];omega,rfl⟩
      have hq4l:=hJ.end_.lt
      have hjs4l:=hJ.row.lt
      have hbody:∀(s':E) (q':Q) (H2:AHeap) (v':Value) (js':List Nat) (o':List Sg) (m n:Nat) (p:Pk),SJ H e bx r q s' o' H2 q' v' js'→H2[H4.length+1]? =some (.loop L)→H2[H4.length]? =some (.cells [ptr e] ⟨29,0,true,0,none⟩)→ (∀ j∈q'.names e,j∈q4.names e∨H4.length+2≤j)→ (∀ j∈js',j∈js∨H4.length+2≤j)→MadeOk s'→o'.length<200000→s'.flight[m]? =some p→q'.fn[m]? =some n→
        AY Try.prog (H4.length+1) [ptr n] H2 (fun u H3=>u= .bool true∧∃v3 js3,SJ H e bx r q (sentS s' m p) (o'++[madeR (sentS s' m p) p.kind p.number p.body]) H3 q' v3 js3∧H3[H4.length+1]? =some (.loop L)∧H3[H4.length]? =some (.cells [ptr e] ⟨29,0,true,0,none⟩)∧ (∀ j∈js3,j∈js∨H4.length+2≤j)):=by
       intro s' q' H2 v' js' o' m n p hS hlp hjd hnm hnj hMd hol hpf hnf
       have hnn:n∈q'.names e:=by simp [Q.names,List.mem_of_getElem? hnf]
       have hne:n≠e:=hS.end_.ne (by simp [List.mem_of_getElem? hnf])
       have hnl:n≠H4.length+1:=fun g=>(hnm n hnn).elim (fun g2=>by have:=hq4l _ g2;omega) (fun g2=>by omega)
       have hnd:n≠H4.length:=fun g=>(hnm n hnn).elim (fun g2=>by have:=hq4l _ g2;omega) (fun g2=>by omega)
       have hSb:=fun (o:AObj)=>hS.other (x:=H4.length+1) (Frm.set (o:=o) (Frm.refl [H4.length+1] H2) (.inl (List.mem_singleton.2 rfl))) (fun g=>(hnm _ g).elim (fun g2=>by have:=hq4l _ g2;omega) (fun g2=>by omega)) (by omega) (by omega) (fun g=>(hnj _ g).elim (fun g2=>by have:=hjs4l _ g2;omega) (fun g2=>by omega)) (by omega)
       refine AY.of (L:=L) hlp (by rw [hL]) (by rw [hL];rfl) (by rw [hL];simp) fun hsc2 lr B2=> ?_
       obtain ⟨Lb,hLb⟩:∃Lb:ALoop,Lb={L with state:= .busy}:=⟨_,rfl⟩
       obtain ⟨Hb,hHb⟩:∃Hb,Hb=H2.set (H4.length+1) (.loop Lb):=⟨_,rfl⟩
       have hSB:=hSb (.loop Lb)
       rw [← hHb] at hSB
       subst hL
       simp only [zipEnv]
       repeat first|refine kw0 ?_|exact kwy
       refine ⟨_,hlp,rfl,?_⟩
       simp only at hLb
       rw [show List.set H2 (H4.length+1) _=Hb from by rw [hHb,hLb]]
       have hbxb:=hSB.bxo
       have hcb:=hSB.end_.cell
       have hpb:=hSB.end_.fpk.2 m n p hnf hpf
       unfold pkC at hpb
       have hnb:=lt_of_get hpb
       simp only [endC] at hcb
       have hsbx:∀o,(Hb.set n o)[bx]? =Hb[bx]? :=fun o=>List.getElem?_set_ne (fun g=>hSB.bxn (by rw [← g];exact hnn))
       have hsbe:∀o,(Hb.set n o)[e]? =Hb[e]? :=fun o=>List.getElem?_set_ne hne
       have hSC:=hSB.step (hSB.end_.setF hnf hpf {p with sent:=s'.now,times:=IntKind.i64.wrap (p.times+1)}) (Frm.set (Frm.refl _ _) (.inl hnn)) (fun j hj=> .inl hj)
       obtain ⟨Hc,hHc⟩:∃Hc,Hc=Hb.set n (.cells (pkC {p with sent:=s'.now,times:=IntKind.i64.wrap (p.times+1)}) kP):=⟨_,rfl⟩
       rw [← hHc] at hSC
       have hpc:Hc[n]? =some (.cells (pkC {p with sent:=s'.now,times:=IntKind.i64.wrap (p.times+1)}) kP):=by rw [hHc];exact List.getElem?_set_self hnb
       have hHc':=hHc.symm
       have hlc:Hc.length=H2.length:=by rw [hHc,List.length_set,hHb,List.length_set]
       have hlpc:Hc[H4.length+1]? =some (.loop Lb):=by rw [hHc,List.getElem?_set_ne hnl,hHb];exact List.getElem?_set_self (lt_of_get hlp)
       have hjdc:Hc[H4.length]? =some (.cells [ptr e] ⟨29,0,true,0,none⟩):=by rw [hHc,List.getElem?_set_ne hnd,hHb,List.getElem?_set_ne (by omega)];exact hjd
       simp only [pkC] at hHc' hpc
       change SJ H e bx r q (sentS s' m p) o' Hc q' v' js' at hSC
       have hmk:=madeE hSC.end_ (hMd.of rfl rfl rfl rfl) p.kind p.number p.body
       obtain ⟨v2,H5,js2,hS5,hF5,hn5,hr5,hv2,hv2f,hrl,happ⟩:=hSC.pushX (madeR (sentS s' m p) p.kind p.number p.body) [.cells (madeR (sentS s' m p) p.kind p.number p.body).c ⟨44,0,true,0,none⟩] (by omega)
       have hbxc:=hSC.bxo
       have hrc:=hSC.ro
       have hcc:=hSC.end_.cell
       have hrlc:=lt_of_get hrc
       have hblc:=lt_of_get hbxc
       have hclc:=lt_of_get hcc
       have hplc:=lt_of_get hpc
       simp only [endC] at hcc
       clear hHc hHb
       generalize madeR (sentS s' m p) p.kind p.number p.body=x at hmk hS5 happ hF5 ⊢
       unfold Sg.v at hmk
       have hxc:cellsOf (.agg ⟨x.c⟩)=x.c:=rfl
       unfold flat at hv2f
       repeat first|refine kw7 hbxb hcb hpb hnb hsbx hsbe hHc' ?_|exact kwy
       apply AWP.regionX [15,16,17] [(0,1),(0,0),(0,0),(0,0),(0,0),(0,0),(0,0),(0,0),(0,0),(0,0),(0,0),(0,0),(0,0),(0,0),(0,0),(0,0),(1,0),(2,0)] [75,76,77,78,79,80,81,82,83,84,85,86,87,88,89,90,91] [_,_,_] [(75,_),(76,_),(77,_),(78,_),(79,_),(80,_),(81,_),(82,_),(83,_),(84,_),(85,_),(86,_),(87,_),(88,_),(89,_),(90,_),(91,_)]
       ·kernel_rfl
       ·kernel_rfl
       ·kernel_rfl
       ·kernel_rfl
       ·rfl
       ·simp only [eachB,runB]
        repeat' with_reducible refine And.intro ?_ ?_
        all_goals try (
         repeat' first
          |with_reducible refine And.intro ?_ ?_|with_reducible refine kc ?_|((with_reducible first|refine kr ?_ ?_|refine kt ?_ ?_);exact rfl)|((with_reducible refine kf ?_ ?_);exact rfl)|with_reducible (first|refine hmk.use ?_|refine happ _ ?_)|simp only [go_sem,sevalprocAttr,reduceCtorEq,hbxc,hrc,hcc,hpc,hgetl,hrlc,hblc,hclc,hplc,hxc,hr5,hrl,hv2,hv2f,Sg.c9,Sg.cput,Sg.ctake,Sg.cflat,stepS,hpL,List.getD_cons_zero,List.getD_cons_succ,List.contains_cons,List.contains_nil,and_imp,forall_eq,implies_true,List.map_cons,List.map_nil]|simp (disch:=omega) only [wz]
          |exact rfl
         done)
        all_goals (
         repeat' first
          |with_reducible refine And.intro ?_ ?_|with_reducible refine kc ?_|((with_reducible first|refine kr ?_ ?_|refine kt ?_ ?_);exact rfl)|((with_reducible refine kf ?_ ?_);exact rfl)|with_reducible (first|refine hmk.use ?_|refine happ _ ?_)|simp only [go_sem,sevalprocAttr,reduceCtorEq,hbxc,hrc,hcc,hpc,hgetl,hrlc,hblc,hclc,hplc,hxc,hr5,hrl,hv2,hv2f,Sg.c9,Sg.cput,Sg.ctake,Sg.cflat,stepS,hpL,List.getD_cons_zero,List.getD_cons_succ,List.contains_cons,List.contains_nil,and_imp,forall_eq,implies_true,List.map_cons,List.map_nil]|simp (disch:=omega) only [wz]
          |exact rfl)
       have hF5n:=fun (g:H4.length+1∈js')=>(hnj _ g).elim (fun g2=>by have:=hjs4l _ g2;omega) (fun g2=>by omega:H4.length+2≤H4.length+1→False)
       have hF5d:=fun (g:H4.length∈js')=>(hnj _ g).elim (fun g2=>by have:=hjs4l _ g2;omega) (fun g2=>by omega:H4.length+2≤H4.length→False)
       have hlp5:H5[H4.length+1]? =some (.loop Lb):=hF5.get (by rw [hgetl (lt_of_get hlpc)];exact hlpc) hF5n
       have hjd5:H5[H4.length]? =some (.cells [ptr e] ⟨29,0,true,0,none⟩):=hF5.get (by rw [hgetl (lt_of_get hjdc)];exact hjdc) hF5d
       have hlp6:∀o,(H5.set r o)[H4.length+1]? =some (.loop Lb):=fun o=>by rw [List.getElem?_set_ne (by omega)];exact hlp5
       have hlpl:=lt_of_get hlp5
       have hjs2:∀j∈js2,j∈js∨H4.length+2≤j:=fun j hj=>(hn5 j hj).elim (hnj j) (fun g=> .inr (by have:=lt_of_get hlp;omega))
       repeat first|refine kw0 ?_|exact kwy
       refine ⟨_,hlp6 _,?_⟩
       subst hLb
       repeat first|refine kw0 ?_|exact kwy
       refine ⟨_,.refl _ _ _,v2,js2,hS5.other (x:=H4.length+1) (Frm.set (Frm.refl _ _) (.inl (List.mem_singleton.2 rfl))) (fun g=>(hnm _ g).elim (fun g2=>by have:=hq4l _ g2;omega) (fun g2=>by omega)) (by omega) (by omega) (fun g=>(hjs2 _ g).elim (fun g2=>by have:=hjs4l _ g2;omega) (fun g2=>by omega)) (by omega),List.getElem?_set_self (by rw [List.length_set];exact hlpl),?_,hjs2⟩
       rw [List.getElem?_set_ne (by omega),List.getElem?_set_ne (by omega)]
       exact hjd5
      have hDI:DueI e H4.length (H4.length+1) (fun c s' q' H'=>∃v' js' o',SendI H e bx r q L H4.length q4 js (dueGo s3 o3) c s' q' H' v' js' o'):=by
       refine ⟨?_,?_,?_,?_,?_,?_⟩
       ·rintro c s' q' H' ⟨v',js',o',hI⟩
        exact ⟨hI.sj.end_,⟨_,hI.jd⟩,fun hm=>(hI.nm _ hm).elim (fun g=>by have:=hq4l _ g;omega) (fun g=>by omega),hI.due⟩
       ·rintro k s' q' H' p ⟨v',js',o',hI⟩ hp hpl
        exact ⟨v',js',o',hI.sj,hI.jd,hI.lp,hI.nm,hI.nj,hI.due,hI.made,hI.len,by have:=hI.out;simp only [remC] at this ⊢;omega,by rw [← hI.goes,goC_skip hp hpl]⟩
       ·rintro s' q' H' ⟨v',js',o',hI⟩
        exact ⟨v',js',o',hI.sj,hI.jd,hI.lp,hI.nm,hI.nj,hI.due,hI.made,hI.len,by have:=hI.out;simp only [remC] at this ⊢;omega,by rw [← hI.goes,goC_fin]⟩
       ·rintro c s' q' H' X ⟨v',js',o',hI⟩
        exact ⟨v',js',o',hI.sj.more X,by rw [hgetl (lt_of_get hI.jd)];exact hI.jd,by rw [hgetl (lt_of_get hI.lp)];exact hI.lp,hI.nm,hI.nj,hI.due,hI.made,hI.len,hI.out,hI.goes⟩
       ·rintro k s' q' H' H2 p n t ⟨v',js',o',hI⟩ hp hpl hfit hn hE2 hF2
        have hS2:=hI.sj.step hE2 hF2 (fun j hj=> .inl hj)
        have hkl:=(List.getElem?_eq_some_iff.1 hp).1
        have hou:=hI.out
        simp only [remC] at hou
        have hln:=hI.len
        refine (hbody (unlostS s' k p) {q' with told:=t} H2 v' js' o' k n {p with lost:=false} hS2 (hF2.get hI.lp (fun g=>(hI.nm _ g).elim (fun g2=>by have:=hq4l _ g2;omega) (fun g2=>by omega))) (hF2.get hI.jd (fun g=>(hI.nm _ g).elim (fun g2=>by have:=hq4l _ g2;omega) (fun g2=>by omega))) hI.nm hI.nj (hI.made.of rfl rfl rfl rfl) (by omega) (by simp only [unlostS];exact List.getElem?_set_self hkl) hn).mono ?_
        rintro u H3 ⟨rfl,v3,js3,hS3,g1,g2,g3⟩
        refine ⟨rfl,t,v3,js3,_,hS3,g2,g1,hI.nm,g3,hI.due.again hp,hI.made.of rfl rfl rfl rfl,by simp only [sentS,unlostS,List.length_set];exact hln,by simp only [remC,sentS,unlostS,List.length_set,List.length_append,List.length_cons,List.length_nil];omega,?_⟩
        rw [← hI.goes,goC_again hp hpl hfit];rfl
       ·rintro s' q' q2' H' H2 p ws n ⟨v',js',o',hI⟩ hw hmr hfit hE2 hF2 hn2 hn
        have hS2:=hI.sj.step hE2 hF2 hn2
        have hou:=hI.out
        simp only [remC,hw,List.length_cons] at hou
        have hln:=hI.len
        rw [hw,List.length_cons] at hln
        have hlpl:=lt_of_get hI.lp
        have hnm2:∀j∈q2'.names e,j∈q4.names e∨H4.length+2≤j:=fun j hj=>(hn2 j hj).elim (hI.nm j) (fun g=> .inr (by omega))
        refine (hbody (newS s' p ws) q2' H2 v' js' o' s'.flight.length n {p with number:=s'.next} hS2 (hF2.get hI.lp (fun g=>(hI.nm _ g).elim (fun g2=>by have:=hq4l _ g2;omega) (fun g2=>by omega))) (hF2.get hI.jd (fun g=>(hI.nm _ g).elim (fun g2=>by have:=hq4l _ g2;omega) (fun g2=>by omega))) hnm2 hI.nj (hI.made.of rfl rfl rfl rfl) (by omega) (by simp [newS]) hn).mono ?_
        rintro u H3 ⟨rfl,v3,js3,hS3,g1,g2,g3⟩
        refine ⟨rfl,q2',v3,js3,_,hS3,g2,g1,hnm2,g3,hI.due.fresh (by rw [hw,List.length_cons];omega) hw,hI.made.of rfl rfl rfl rfl,by simp only [sentS,newS,List.length_set,List.length_append,List.length_cons,List.length_nil];omega,by simp only [remC,sentS,newS,List.length_set,List.length_append,List.length_cons,List.length_nil];omega,?_⟩
        rw [← hI.goes,goC_new hw hmr hfit];rfl
      rw [hlen5]
      refine AC.mono (due1a hDI ⟨v,js,o3,h0I⟩) ?_
      rintro r2 H2 ⟨rfl,c,s',q',⟨v',js',o',hI⟩,hstop⟩
      have hgo:=hI.goes
      rw [goC_stop hstop] at hgo
      subst hL
      have hlp:=hI.lp
      have hSJ:=hI.sj.other (x:=H4.length+1) (H5:=H2.set (H4.length+1) .dead) (Frm.set (Frm.refl _ _) (.inl (List.mem_singleton.2 rfl))) (fun g=>(hI.nm _ g).elim (fun g2=>by have:=hq4l _ g2;omega) (fun g2=>by omega)) (by have:=lt_of_get hJ.bxo;omega) (by have:=lt_of_get hJ.ro;omega) (fun g=>(hI.nj _ g).elim (fun g2=>by have:=hjs4l _ g2;omega) (fun g2=>by omega)) (by omega)
      repeat first|refine kw0 ?_|exact kwy
      refine ⟨_,hlp,(fun h=>by cases h),?_⟩
      dsimp only
      rw [← hgo]
      exact ⟨⟨[(2,ptr bx),(7,ptr r)],[.mark],H2.set (H4.length+1) .dead⟩,⟨⟨bx,r,_,_,_,_,hSJ,rfl⟩,by have:=hI.out;dsimp only;omega,hI.made⟩,Weak.env (by simp [envIn,lk_cons,wth_some])⟩
     ·clear hr4 hbx4 hc4 hrl4 hbl4 hcl4 hre
      rintro _ ⟨⟨bx',r',H9,q9,v9,js9,hJ9,rfl⟩,hout,hM9⟩
      generalize (dueGo s3 o3).1=s9 at hJ9 hM9 ⊢
      generalize (dueGo s3 o3).2=o9 at hJ9 hout ⊢
      have hbx4:=hJ9.bxo
      have hr4:=hJ9.ro
      have hc4:=hJ9.end_.cell
      have hrl4:=lt_of_get hr4
      have hbl4:=lt_of_get hbx4
      have hcl4:=lt_of_get hc4
      simp only [endC] at hc4
      have hlw:∀H' K,lenW Try.prog 31 v9 H' K=K (.int .i64 (o9.length:Nat)) H':=fun H' K=>hJ9.row.lenW
      unfold send3
      cases ho9:o9 with
      | nil=>
       subst ho9
       simp only [List.length_nil] at hlw
       cases han:s9.answer with
       |false=>
        rw [if_neg (by simp),if_pos rfl]
        repeat first|refine kw5 hr4 hlw hbx4 hc4 han ?_|exact kwy
        exact ⟨_,_,.refl _ _ _,_,_,_,rfl,hJ9.end_,hJ9.frm,hJ9.names,hJ9.row,fun j hj=>⟨(hJ9.jsn j hj).1,(hJ9.jsn j hj).2.1⟩⟩
       | true=>
        rw [if_pos (by simp)]
        have hmk:=madeE hJ9.end_ hM9 3 s9.next []
        obtain ⟨v2,H5,js2,hJ5,_,_,hr5,hv2,hv2f,hrl,happ⟩:=hJ9.pushX (madeR s9 3 s9.next []) [.cells (madeR s9 3 s9.next []).c ⟨44,0,true,0,none⟩] (by simp)
        generalize madeR s9 3 s9.next []=x at hmk hJ5 happ ⊢
        unfold Sg.v at hmk
        have hxc:cellsOf (.agg ⟨x.c⟩)=x.c:=rfl
        unfold flat at hv2f
        have hc5:=hJ5.end_.cell
        have hcl5:=lt_of_get hc5
        have hbx5:=hJ5.bxo
        have hr6:=hJ5.ro
        have hlw5:∀H' K,lenW Try.prog 31 v2 H' K=K (.int .i64 (1:Nat)) H':=fun H' K=>hJ5.row.lenW
        have hJ6:=hJ5.put {s9 with answer:=false} rfl rfl rfl
        obtain ⟨Ha,hHa⟩:∃Ha,Ha=H5.set r' (.cells [v2] ⟨31,0,true,0,none⟩):=⟨_,rfl⟩
        rw [← hHa] at hJ6 hc5 hcl5 hbx5 hr6
        have hHa':=hHa.symm
        obtain ⟨Hb,hHb⟩:∃Hb,Hb=Ha.set e (.cells (endC {s9 with answer:=false} q9) kE):=⟨_,rfl⟩
        rw [← hHb] at hJ6
        have hHb':=hHb.symm
        have hr7:=hJ6.ro
        simp only [endC] at hHb' hc5
        repeat first|refine kw5 hr4 hlw hbx4 hc4 han ?_|exact kwy
        apply AWP.regionX [8,9,10] [(0,1),(0,0),(0,0),(0,0),(0,0),(0,0),(0,0),(0,0),(0,0),(1,0),(2,0)] [102,103,104,105,106,107,108,109,110,111] [_,_,_] [(102,_),(103,_),(104,_),(105,_),(106,_),(107,_),(108,_),(109,_),(110,_),(111,_)]
        ·kernel_rfl
        ·kernel_rfl
        ·kernel_rfl
        ·kernel_rfl
        ·rfl
        ·simp only [eachB,runB]
         repeat' with_reducible refine And.intro ?_ ?_
         all_goals try (
          repeat' first
           |with_reducible refine And.intro ?_ ?_|with_reducible refine kc ?_|((with_reducible first|refine kr ?_ ?_|refine kt ?_ ?_);exact rfl)|((with_reducible refine kf ?_ ?_);exact rfl)|with_reducible (first|refine hmk.use ?_|refine happ _ ?_)|simp only [go_sem,sevalprocAttr,reduceCtorEq,hbx4,hr4,hc4,hgetl,hrl4,hbl4,hcl4,hxc,hr5,hrl,hv2,hv2f,Sg.c9,Sg.cput,Sg.ctake,Sg.cflat,stepS,hpL,List.getD_cons_zero,List.getD_cons_succ,List.contains_cons,List.contains_nil,and_imp,forall_eq,implies_true,List.map_cons,List.map_nil]|simp (disch:=omega) only [wz]
           |exact rfl
          done)
         all_goals (
          repeat' first
           |with_reducible refine And.intro ?_ ?_|with_reducible refine kc ?_|((with_reducible first|refine kr ?_ ?_|refine kt ?_ ?_);exact rfl)|((with_reducible refine kf ?_ ?_);exact rfl)|with_reducible (first|refine hmk.use ?_|refine happ _ ?_)|simp only [go_sem,sevalprocAttr,reduceCtorEq,hbx4,hr4,hc4,hgetl,hrl4,hbl4,hcl4,hxc,hr5,hrl,hv2,hv2f,Sg.c9,Sg.cput,Sg.ctake,Sg.cflat,stepS,hpL,List.getD_cons_zero,List.getD_cons_succ,List.contains_cons,List.contains_nil,and_imp,forall_eq,implies_true,List.map_cons,List.map_nil]|simp (disch:=omega) only [wz]
           |exact rfl)
        repeat first|refine kw8 hHa' hr6 hlw5 hbx5 hc5 hcl5 hHb' hr7 ?_|exact kwy
        exact ⟨_,_,.refl _ _ _,_,_,_,rfl,hJ6.end_,hJ6.frm,hJ6.names,hJ6.row,fun j hj=>⟨(hJ6.jsn j hj).1,(hJ6.jsn j hj).2.1⟩⟩
      |cons y o8=>
       rw [if_neg (by simp),if_neg (by simp)]
       rw [← ho9]
       have hne0:((o9.length:Nat):Int)>0:=by rw [ho9];simp
       have hne1:(((o9.length:Nat):Int)==0)=false:=by rw [ho9];simp;omega
       have hJ6:=hJ9.put {s9 with answer:=false} rfl rfl rfl
       obtain ⟨Hb,hHb⟩:∃Hb,Hb=H9.set e (.cells (endC {s9 with answer:=false} q9) kE):=⟨_,rfl⟩
       rw [← hHb] at hJ6
       have hHb':=hHb.symm
       have hr7:=hJ6.ro
       simp only [endC] at hHb'
       clear ho9
       repeat first|refine kw9 hr4 hlw hne1 hne0 hbx4 hc4 hcl4 hHb' hr7 ?_|exact kwy
       exact ⟨_,_,.refl _ _ _,_,_,_,rfl,hJ6.end_,hJ6.frm,hJ6.names,hJ6.row,fun j hj=>⟨(hJ6.jsn j hj).1,(hJ6.jsn j hj).2.1⟩⟩
 ·rw [if_neg h0]
  rw [if_neg h0] at hte
  have h0':(atR s now != 0)=true:=by simp [h0]
  refine AC.enter Try.func16 rfl (by kernel_rfl) 120 rfl [.tmp 4,.tmp 5] rfl (by simp) fun hsc B=> ?_
  repeat first|with_reducible refine hte.use ?_|refine kw1 h0' ?_|exact kwy
  exact ⟨_,_,.refl _ _ _,q,.slice none 0 0,[],rfl,h.more _,Frm.app,fun j hj=> .inl hj,RowS.nil _,by simp⟩
end Go.Proofs.Ytdgmcckfdgnicaa
