/-
 FlowReset:up to the three rounds.
-/
import Derived.Test.YtdgmcckfdgnicaaUoM
import Derived.Test.YtdgmcckfdgnicaaAwC
set_option linter.unusedVariables false
set_option linter.unusedSimpArgs false
set_option maxRecDepth 20000
set_option maxHeartbeats 8000000
namespace Go.Proofs.Ytdgmcckfdgnicaa
open Go Go.Aw Go.Proofs
def sq (conn first other:Int):Nat→PS
 |0=>mkS conn other (rA0 conn first) (rB0 conn other) 0
 |1=>mkS conn other (rA1 conn first) (rB1 conn first other) 1
 |2=>mkS conn other (rA2 conn first other) (rB2 conn first other) 2
 |_=>mkS conn other (rA3 conn first other) (rB3 conn first other) 3
theorem rdq {conn first other:Int} (hc:0≤conn∧conn<65536) (hf:0≤first∧first<65536) (ho:0≤other∧other<65536) (i W:Nat) (hW:W<2):Round W (sq conn first other (2*i+W)) (sq conn first other (2*i+W+1)) 4200 100 10:=by
 rcases (by omega:W=0∨W=1) with rfl|rfl
 ·rcases i with _|_|i
  ·exact rd1 conn first other hc hf ho
  ·exact rd3 conn first other hc hf ho
  ·exact rd5 conn first other hc hf ho
 ·rcases i with _|i
  ·exact rd2 conn first other hc hf ho
  ·exact rd4 conn first other hc hf ho
def RsJ (conn first other:Int) (env:List (Nat×Value)) (st:ASt):Prop:=∃pp x H2,PairI H2 pp (mkS conn other (rA3 conn first other) (rB3 conn first other) 3) x∧st=⟨(11,ptr pp)::env,[],H2⟩
def rsS (conn first other:Int) (W:Nat):PS:={mkS conn other (rA3 conn first other) (rB3 conn first other) 3 with e:=upd (mkS conn other (rA3 conn first other) (rB3 conn first other) 3).e W (rst ((mkS conn other (rA3 conn first other) (rB3 conn first other) 3).e W))}
def RsK (conn first other:Int) (W:Nat) (env:List (Nat×Value)) (st:ASt):Prop:=∃pp x H3,PairI H3 pp (rsS conn first other W) x∧st=⟨(11,ptr pp)::(3,.int .i64 (W:Nat))::env,[],H3⟩
def RsL (conn first other:Int) (W:Nat) (H3:AHeap) (pp:Nat) (x:PQ) (p5:Sg) (env:List (Nat×Value)) (st:ASt):Prop:=
 ∃q4 v js H4,EndI H4 (x.es W) (gon (rst ((mkS conn other (rA3 conn first other) (rB3 conn first other) 3).e W))) q4∧Frm (x.en W) H3 H4∧ (∀ j∈q4.names (x.es W),j∈x.en W∨H3.length≤j)∧RowS H4 v [p5] js∧ (∀ j∈js,H3.length≤j∧j∉q4.names (x.es W))∧st=⟨(11,ptr pp)::(3,.int .i64 (W:Nat))::(14,v)::(15,.int .i64 0)::env,[],H4⟩
def RsM (conn first other:Int) (W:Nat) (env:List (Nat×Value)) (st:ASt):Prop:=∃pp x H5 ps,PairI H5 pp ps x∧ps.now=0∧ps.e (1 - W)=got5 ((mkS conn other (rA3 conn first other) (rB3 conn first other) 3).e (1 - W))∧st=⟨(11,ptr pp)::(3,.int .i64 (W:Nat))::env,[],H5⟩
def RsN (env:List (Nat×Value)) (st:ASt):Prop:=∃v js H6,RowS H6 v [] js∧st=⟨(14,v)::(15,.int .i64 0)::env,[],H6⟩
theorem lawReset (conn first other who:Int) (text:List UInt8) (H:AHeap):AC Try.prog 3 [.int .i64 conn,.int .i64 first,.int .i64 other,.int .i64 who,.string (bs text)] H (fun r _=>r= .ret (.bool true)):=by
 have haw:=fun H=>awake H
 have hemp:=emptyB (b:=text)
 by_cases hr:(0≤conn∧conn≤65535)∧(0≤first∧first≤65535)∧(0≤other∧other≤65535)
 ·obtain ⟨h1,h2,h3⟩:=hr
  have hst:=fun H=>small_t conn first other h1 h2 h3 H
  by_cases hl:(text.length:Int)>1000
  ·
   refine AC.enter Try.func3 rfl (by kernel_rfl) 235 rfl [.tmp 10] rfl (by simp) fun hsc B=> ?_
   repeat first|with_reducible refine kc ?_|((with_reducible first|refine kr ?_ ?_|refine kt ?_ ?_);exact rfl)|((with_reducible refine kf ?_ ?_);exact rfl)|with_reducible (first|refine (hst _).use ?_|refine (haw _).use ?_)|simp only [go_sem,sevalprocAttr,reduceCtorEq,hl]|simp (disch:=omega) only [wz]
   exact ⟨_,_,.refl _ _ _,rfl⟩
  ·cases hte:decide (text.length=0) with
   |true=>
    rw [hte] at hemp
    refine AC.enter Try.func3 rfl (by kernel_rfl) 235 rfl [.tmp 10] rfl (by simp) fun hsc B=> ?_
    repeat first|with_reducible refine kc ?_|((with_reducible first|refine kr ?_ ?_|refine kt ?_ ?_);exact rfl)|((with_reducible refine kf ?_ ?_);exact rfl)|with_reducible (first|refine (hst _).use ?_|refine (haw _).use ?_)|simp only [go_sem,sevalprocAttr,reduceCtorEq,hl,hemp]|simp (disch:=omega) only [wz]
    exact ⟨_,_,.refl _ _ _,rfl⟩
   | false =>
    rw [hte] at hemp
    have hc:0≤conn∧conn<65536:=by omega
    have hf:0≤first∧first<65536:=by omega
    have ho:0≤other∧other<65536:=by omega
    refine AC.enter Try.func3 rfl (by kernel_rfl) 235 rfl [.tmp 10] rfl (by simp) fun hsc B=> ?_
    repeat first|with_reducible refine kc ?_|((with_reducible first|refine kr ?_ ?_|refine kt ?_ ?_);exact rfl)|((with_reducible refine kf ?_ ?_);exact rfl)|with_reducible refine (hst _).use ?_|simp only [go_sem,sevalprocAttr,reduceCtorEq,hl,hemp]|simp (disch:=omega) only [wz]
    refine AC.mono (begin_ conn first other 5000 4200 100 [] (.slice none 0 0) hc hf ho (by omega) (by omega) (by omega) H Rd.nil) ?_
    rintro r H1 ⟨pp,x1,rfl,hP1,hF1,hn1⟩
    rw [begin_mk] at hP1
    repeat first|with_reducible refine AWP.seqE (x:= .seq (.region 6 _ _) _) (RsJ conn first other [(0,.int .i64 conn),(1,.int .i64 first),(2,.int .i64 other),(3,.int .i64 who),(4,.string (bs text))]) ?_ ?_|with_reducible refine kc ?_|((with_reducible first|refine kr ?_ ?_|refine kt ?_ ?_);exact rfl)|((with_reducible refine kf ?_ ?_);exact rfl)|simp only [go_sem,sevalprocAttr,reduceCtorEq]|simp (disch:=omega) only [wz]
    ·
     repeat first|with_reducible refine kc ?_|((with_reducible first|refine kr ?_ ?_|refine kt ?_ ?_);exact rfl)|((with_reducible refine kf ?_ ?_);exact rfl)|simp only [go_sem,sevalprocAttr,reduceCtorEq]|simp (disch:=omega) only [wz]
     refine AWP.loopP (fun s2:Nat×PQ×AHeap=>⟨[(0,.int .i64 conn),(1,.int .i64 first),(2,.int .i64 other),(3,.int .i64 who),(4,.string (bs text)),(11,ptr pp),(41,.int .i64 (s2.1:Nat))],[],s2.2.2⟩) (fun s2=>s2.1≤3∧PairI s2.2.2 pp (sq conn first other (2*s2.1)) s2.2.1) (fun s2=>3 - s2.1) (0,x1,H1) ?_ ⟨by omega,hP1⟩ ?_
     ·exact Weak.env (by simp [envIn,lk_cons,wth_some])
     clear hP1 hF1 hn1
     rintro ⟨i,x2,H2⟩ ⟨hi,hP2⟩
     simp only at hi hP2
     by_cases hi3:i<3
     ·have hi3':(i:Int)<3:=by omega
      have hwi:IntKind.i64.wrap ((i:Int)+1)=((i+1:Nat):Int):=by rw [wi64 (by omega)];omega
      repeat first|with_reducible refine kc ?_|((with_reducible first|refine kr ?_ ?_|refine kt ?_ ?_);exact rfl)|((with_reducible refine kf ?_ ?_);exact rfl)|simp only [go_sem,sevalprocAttr,reduceCtorEq,hi3']|simp (disch:=omega) only [wz]
      refine AWP.loopP (fun s2:Nat×PQ×AHeap=>⟨[(0,.int .i64 conn),(1,.int .i64 first),(2,.int .i64 other),(3,.int .i64 who),(4,.string (bs text)),(11,ptr pp),(41,.int .i64 (i:Nat)),(43,.int .i64 (s2.1:Nat))],[],s2.2.2⟩) (fun s2=>s2.1≤2∧PairI s2.2.2 pp (sq conn first other (2*i+s2.1)) s2.2.1) (fun s2=>2 - s2.1) (0,x2,H2) ?_ ⟨by omega,hP2⟩ ?_
      ·exact Weak.env (by simp [envIn,lk_cons,wth_some])
      clear hP2
      rintro ⟨W,x3,H3⟩ ⟨hW2,hP3⟩
      simp only at hW2 hP3
      by_cases hW:W<2
      ·have hW':(W:Int)<2:=by omega
       have hR:=rdq hc hf ho i W hW
       have hsd:=send hP3 hW 4200 hR.due hR.made hR.outs hR.few hR.err hR.ok hR.due2 hR.under hR.out hR.pos hR.numbers hR.way
       obtain ⟨m,hm,t1,t2,t3,t4,t5,t6,t7,t8⟩:=hR.take
       rw [← hm] at hsd
       have hwW:IntKind.i64.wrap ((W:Int)+1)=((W+1:Nat):Int):=by rw [wi64 (by omega)];omega
       have hw1:IntKind.i64.wrap (1 - (W:Int))=((1 - W:Nat):Int):=by rw [wi64 (by omega)];omega
       repeat first|with_reducible refine kc ?_|((with_reducible first|refine kr ?_ ?_|refine kt ?_ ?_);exact rfl)|((with_reducible refine kf ?_ ?_);exact rfl)|simp only [go_sem,sevalprocAttr,reduceCtorEq,hW']|simp (disch:=omega) only [wz]
       refine AC.mono hsd ?_
       rintro r H4 ⟨rfl,x4,hJ4⟩
       have har:=arrive hJ4.pair (W:=1 - W) (by omega) 100 10 (by omega) (by omega) t1 (by rw [show 1 - (1 - W)=W by omega];exact t2) t3 (by rw [show 1 - (1 - W)=W by omega];omega) (by rw [show 1 - (1 - W)=W by omega];omega) t5 t6
       rw [t7,t8] at har
       repeat first|with_reducible refine kc ?_|((with_reducible first|refine kr ?_ ?_|refine kt ?_ ?_);exact rfl)|((with_reducible refine kf ?_ ?_);exact rfl)|simp only [go_sem,sevalprocAttr,reduceCtorEq,hw1]|simp (disch:=omega) only [wz]
       refine AC.mono har ?_
       rintro r H5 ⟨rfl,x5,hJ5⟩
       repeat first|with_reducible refine kc ?_|((with_reducible first|refine kr ?_ ?_|refine kt ?_ ?_);exact rfl)|((with_reducible refine kf ?_ ?_);exact rfl)|simp only [go_sem,sevalprocAttr,reduceCtorEq,hwW]|simp (disch:=omega) only [wz]
       exact ⟨(W+1,x5,H5),Weak.env (by simp [envIn,lk_cons,wth_some]),by omega,hJ5.pair,by omega⟩
      ·obtain rfl:W=2:=by omega
       repeat first|with_reducible refine kc ?_|((with_reducible first|refine kr ?_ ?_|refine kt ?_ ?_);exact rfl)|((with_reducible refine kf ?_ ?_);exact rfl)|simp only [go_sem,sevalprocAttr,reduceCtorEq,hwi]|simp (disch:=omega) only [wz]
       exact ⟨(i+1,x3,H3),Weak.env (by simp [envIn,lk_cons,wth_some]),by omega,hP3,by omega⟩
     ·obtain rfl:i=3:=by omega
      repeat first|with_reducible refine kc ?_|((with_reducible first|refine kr ?_ ?_|refine kt ?_ ?_);exact rfl)|((with_reducible refine kf ?_ ?_);exact rfl)|simp only [go_sem,sevalprocAttr,reduceCtorEq]|simp (disch:=omega) only [wz]
      exact ⟨_,⟨pp,x2,H2,hP2,rfl⟩,Weak.env (by simp [envIn,lk_cons,wth_some])⟩
    ·rintro _ ⟨pp',x2,H2,hP2,rfl⟩
     clear hP1 hF1 hn1 hst hemp
     obtain ⟨W,hWd⟩:∃W:Nat,W=((who.tmod 2+2).tmod 2).toNat:=⟨_,rfl⟩
     have hb1:=Int.tmod_lt_of_pos who (b:=2) (by omega)
     have hb2:=Int.lt_tmod_of_pos who (b:=2) (by omega)
     have hw2:IntKind.i64.wrap (who.tmod 2+2)=who.tmod 2+2:=IntWalk.i64_in _ (by omega)
     have hW:W<2:=by
      rw [hWd,Int.tmod_eq_emod_of_nonneg (by omega)];omega
     have hWv:(who.tmod 2+2).tmod 2=(W:Int):=by
      rw [hWd,Int.tmod_eq_emod_of_nonneg (by omega)];omega
     clear hWd
     repeat first|with_reducible refine AWP.seqE (x:= .seq (.region 16 _ _) _) (RsK conn first other W [(0,.int .i64 conn),(1,.int .i64 first),(2,.int .i64 other)]) ?_ ?_|with_reducible refine kc ?_|((with_reducible first|refine kr ?_ ?_|refine kt ?_ ?_);exact rfl)|((with_reducible refine kf ?_ ?_);exact rfl)|simp only [go_sem,sevalprocAttr,reduceCtorEq,hw2,hWv]|simp (disch:=omega) only [wz]
     rotate_left
     ·rintro _ ⟨pp3,x3,H3,hP3,rfl⟩
      have hst:∀V,V<2→((mkS conn other (rA3 conn first other) (rB3 conn first other) 3).e V).state=2:=fun V hV=>by
       rcases (by omega:V=0∨V=1) with rfl|rfl<;> rfl
      have hid:∀V,V<2→Idle ((mkS conn other (rA3 conn first other) (rB3 conn first other) 3).e V):=fun V hV=>by
       rcases (by omega:V=0∨V=1) with rfl|rfl
       ·exact idleA3 conn first other hf
       ·exact idleB3 conn first other ho
      have hs5:∃p5:Sg,p5.kind=5∧p5.ok∧sendR (rst ((mkS conn other (rA3 conn first other) (rB3 conn first other) 3).e W)) 0=(0,gon (rst ((mkS conn other (rA3 conn first other) (rB3 conn first other) 3).e W)),[p5])∧takeR ((mkS conn other (rA3 conn first other) (rB3 conn first other) 3).e (1 - W)) 0 [p5]=(0,got5 ((mkS conn other (rA3 conn first other) (rB3 conn first other) 3).e (1 - W)))∧sendR (got5 ((mkS conn other (rA3 conn first other) (rB3 conn first other) 3).e (1 - W))) 0=(0,{got5 ((mkS conn other (rA3 conn first other) (rB3 conn first other) 3).e (1 - W)) with answer:=false},[]):=by
       rcases (by omega:W=0∨W=1) with rfl|rfl
       ·exact ⟨_,rfl,okS conn (by omega) hc (by omega) (by omega),en1 conn first other,en3 conn first other,en6 conn first other⟩
       ·exact ⟨_,rfl,okS conn (by omega) hc (by omega) (by omega),en2 conn first other,en4 conn first other,en5 conn first other⟩
      obtain ⟨p5,hk5,hok5,hs1,ht1,hs2⟩:=hs5
      have hidW:=(hid W hW).rst
      have hidV:=hid (1 - W) (by omega)
      have hEW:=hP3.end_ W hW
      have heW:(rsS conn first other W).e W=rst ((mkS conn other (rA3 conn first other) (rB3 conn first other) 3).e W):=upd_self
      have heV:(rsS conn first other W).e (1 - W)=(mkS conn other (rA3 conn first other) (rB3 conn first other) 3).e (1 - W):=upd_ne (by omega)
      rw [heW] at hEW
      have hsnd:=Send hEW 0 hidW.due hidW.made (by rw [hidW.outs];omega) hidW.few
      rw [hs1] at hsnd
      have hc3:=hP3.cell
      simp only [pairC] at hc3
      simp only [rsS,mkS] at hc3
      repeat first|with_reducible refine AWP.seqE (x:= .region 18 _ _) (RsL conn first other W H3 pp3 x3 p5 [(0,.int .i64 conn),(1,.int .i64 first),(2,.int .i64 other)]) ?_ ?_|with_reducible refine kc ?_|((with_reducible first|refine kr ?_ ?_|refine kt ?_ ?_);exact rfl)|((with_reducible refine kf ?_ ?_);exact rfl)|simp only [go_sem,sevalprocAttr,reduceCtorEq]|simp (disch:=omega) only [wz]
      ·obtain ⟨WN,hWN⟩:∃n,n=W:=⟨_,rfl⟩
       rcases (by omega:W=0∨W=1) with rfl|rfl
       all_goals
        simp only [Int.natCast_zero,Int.natCast_one]
        refine AWP.regionM 15 [5,9,10,11,12,13,14] [] (.both (.step 5 (.step 9 (.step 10 (.step 11 (.both (.step 12 (.both (.run [13,14]) (.run [14,13]))) (.run [13,12,14])))))) (.step 9 (.step 5 (.step 10 (.step 11 (.both (.step 12 (.both (.run [13,14]) (.run [14,13]))) (.run [13,12,14]))))))) (by kernel_rfl) (by decide) (by kernel_rfl) (by kernel_rfl) (by kernel_rfl) ?_
        repeat' first|with_reducible refine canW_n ?_|with_reducible refine canW_m (by decide) ?_|((with_reducible apply canW_p (by decide));focus (intro H;(simp only [go_sem,sevalprocAttr,reduceCtorEq,hc3,List.map_cons,List.map_nil]);exact rfl))|with_reducible refine memW_b ?_ ?_|with_reducible refine memW_s rfl ?_|with_reducible refine memW_r rfl ?_|with_reducible refine memW_e ?_|simp only [List.take_succ_cons,List.take_zero,List.drop_succ_cons,List.drop_zero]|omega|with_reducible refine And.intro ?_ ?_|with_reducible refine kc ?_|((with_reducible first|refine kr ?_ ?_|refine kt ?_ ?_);exact rfl)|((with_reducible refine kf ?_ ?_);exact rfl)|simp only [go_sem,sevalprocAttr,reduceCtorEq,hc3,List.map_cons,List.map_nil]|simp (disch:=omega) only [wz]
        all_goals
         refine AC.mono hsnd ?_
         rintro r H4 ⟨q4,v,js,rfl,hE4⟩
         clear hsnd
         repeat' first|with_reducible refine canW_n ?_|with_reducible refine canW_m (by decide) ?_|((with_reducible apply canW_p (by decide));focus (intro H;(simp only [go_sem,sevalprocAttr,reduceCtorEq,List.map_cons,List.map_nil]);exact rfl))|with_reducible refine memW_b ?_ ?_|with_reducible refine memW_s rfl ?_|with_reducible refine memW_r rfl ?_|with_reducible refine memW_e ?_|simp only [List.take_succ_cons,List.take_zero,List.drop_succ_cons,List.drop_zero]|omega|with_reducible refine And.intro ?_ ?_|with_reducible refine kc ?_|((with_reducible first|refine kr ?_ ?_|refine kt ?_ ?_);exact rfl)|((with_reducible refine kf ?_ ?_);exact rfl)|simp only [go_sem,sevalprocAttr,reduceCtorEq,List.map_cons,List.map_nil]|simp (disch:=omega) only [wz]
         all_goals exact ⟨_,⟨q4,v,js,H4,hE4.1,hE4.2.1,hE4.2.2.1,hE4.2.2.2.1,hE4.2.2.2.2,rfl⟩,Weak.env (by simp [envIn,lk_cons,wth_some])⟩
      ·rintro _ ⟨q4,v,js,H4,hE4,hF4,hn4,hrow4,hjs4,rfl⟩
       have hJ4:=hP3.jE hW hE4 hF4 hn4
       have hjd4:=hP3.fresh hW hjs4
       have hEV:=hJ4.pair.end_ (1 - W) (by omega)
       simp only [upd_ne (show 1 - W≠W by omega)] at hEV
       rw [heV] at hEV
       have hTk:=Take hEV 0 hrow4 (fun j hj hm=>hjd4 j hj (PQ.mem.2 (.inr (.inl ⟨1 - W,by omega,by unfold PQ.en;simp only [upd_ne (show 1 - W≠W by omega)];exact hm⟩)))) (fun p hp=>by rw [List.mem_singleton.1 hp];exact hok5) hidV.take (by simp) (by simp)
       rw [ht1] at hTk
       simp only at hTk
       obtain ⟨jr,off,cap,cs,es,hv,_,hjr,hcap,hle,hg⟩:=hrow4.get (i:=0) (x:=p5) rfl
       have hg0:cs[off]? =some (.int .i64 5):=by
        have:=congrArg (fun l:List Value=>l[0]?) hg
        simp only [Nat.zero_mul,Nat.add_zero] at this
        rw [List.getElem?_take_of_lt (by omega),List.getElem?_drop,Nat.add_zero] at this
        rw [this,←hk5];rfl
       have hc4:=hJ4.pair.cell
       simp only [pairC] at hc4
       simp only [rsS,mkS] at hc4
       have hl1:([p5]:List Sg).length=1:=rfl
       rw [hl1] at hv hcap
       subst hv
       repeat first|with_reducible refine AWP.seqE (x:= .seq (.region 19 _ _) _) (RsM conn first other W [(0,.int .i64 conn),(1,.int .i64 first),(2,.int .i64 other)]) ?_ ?_|with_reducible refine kc ?_|((with_reducible first|refine kr ?_ ?_|refine kt ?_ ?_);exact rfl)|((with_reducible refine kf ?_ ?_);exact rfl)|simp only [go_sem,sevalprocAttr,reduceCtorEq]|simp (disch:=omega) only [wz]
       ·clear hst hid hs1 hs2 ht1 hsnd
        rcases (by omega:W=0∨W=1) with rfl|rfl
        ·
         simp only [Int.natCast_zero,Nat.sub_zero] at hTk hEV ⊢
         apply AWP.regionZ (T:=AHeap×Q) 27 0 (fun t=>EndI t.1 (x3.es 1) (got5 ((mkS conn other (rA3 conn first other) (rB3 conn first other) 3).e 1)) t.2∧Frm ((x3.q 1).names (x3.es 1)) H4 t.1∧∀j∈t.2.names (x3.es 1),j∈(x3.q 1).names (x3.es 1)∨H4.length≤j) [27] [(0,0),(0,0),(0,0),(0,0),(0,0),(0,0),(0,0),(0,0),(0,0),(0,0),(0,0),(0,0),(0,0),(0,0),(0,0),(0,0),(0,0),(0,0),(0,0),(0,0),(0,0),(0,0),(0,0),(0,0),(0,0),(0,0),(0,0),(0,0),(1,0),(1,0),(1,0),(1,0),(1,0),(1,0),(1,0),(1,0),(1,0),(1,0),(1,0),(1,0),(1,0)] [128,129,130,131,132,133,134,135,136,137,138,139,140,141,142,143,144,145,146,147,148,149,150,151,152,153,154] [155,156,157,158,159,160,161,162,163,164,165,166,167,168] [] (fun t=>[t.1]) [(128,_),(129,_),(130,_),(131,_),(132,_),(133,_),(134,_),(135,_),(136,_),(137,_),(138,_),(139,_),(140,_),(141,_),(142,_),(143,_),(144,_),(145,_),(146,_),(147,_),(148,_),(149,_),(150,_),(151,_),(152,_),(153,_),(154,_)] (fun t=>[(155,.int .i64 0),(156,.bool false),(157,.bool false),(158,.bool false),(159,ptr pp3),(160,.int .i64 0),(161,.int .i64 1),(162,ptr pp3),(163,.pointer (some ⟨pp3,0,none⟩)),(164,.pointer (some ⟨pp3,1,none⟩)),(165,ptr (x3.es 1)),(166,.int .i64 5),(167,.bool false),(168,.bool false)])
         ·kernel_rfl
         ·kernel_rfl
         ·kernel_rfl
         ·rfl
         ·rfl
         ·kernel_rfl
         ·kernel_rfl
         ·rfl
         ·intro t;rfl
         ·
          simp only [List.take_succ_cons,List.take_zero,List.drop_succ_cons,List.drop_zero,eachB,runB]
          repeat' with_reducible refine And.intro ?_ ?_
          all_goals try (
           repeat' first
            |with_reducible refine And.intro ?_ ?_|with_reducible refine kc ?_|((with_reducible first|refine kr ?_ ?_|refine kt ?_ ?_);exact rfl)|((with_reducible refine kf ?_ ?_);exact rfl)|simp only [go_sem,sevalprocAttr,reduceCtorEq,hc4,hjr,hg0,stepS,hpL,List.getD_cons_zero,List.getD_cons_succ,List.contains_cons,List.contains_nil,and_imp,forall_eq,implies_true,List.map_cons,List.map_nil]|simp (disch:=omega) only [wz]
            |exact rfl
           done)
          all_goals (
           repeat' first
            |with_reducible refine And.intro ?_ ?_|with_reducible refine kc ?_|((with_reducible first|refine kr ?_ ?_|refine kt ?_ ?_);exact rfl)|((with_reducible refine kf ?_ ?_);exact rfl)|simp only [go_sem,sevalprocAttr,reduceCtorEq,hc4,hjr,hg0,stepS,hpL,List.getD_cons_zero,List.getD_cons_succ,List.contains_cons,List.contains_nil,and_imp,forall_eq,implies_true,List.map_cons,List.map_nil]|simp (disch:=omega) only [wz]
            |exact rfl)
         ·
          repeat first|with_reducible refine kc ?_|((with_reducible first|refine kr ?_ ?_|refine kt ?_ ?_);exact rfl)|((with_reducible refine kf ?_ ?_);exact rfl)|simp only [go_sem,sevalprocAttr,reduceCtorEq,stepZ,hpL,List.getD_cons_zero,List.getD_cons_succ,hc4]|simp (disch:=omega) only [wz]
          refine AC.mono hTk ?_
          rintro r H5 ⟨rfl,q5,k1,k2,k3⟩
          repeat first|with_reducible refine kc ?_|((with_reducible first|refine kr ?_ ?_|refine kt ?_ ?_);exact rfl)|((with_reducible refine kf ?_ ?_);exact rfl)|simp only [go_sem,sevalprocAttr,reduceCtorEq]|simp (disch:=omega) only [wz]
          exact ⟨⟨H5,q5⟩,k1,k2,k3,rfl⟩
         ·rintro ⟨H5,q5⟩ ⟨k1,k2,k3⟩
          have hJ5:=hJ4.trans (hJ4.pair.jE (W:=1) (by omega) k1 k2 k3)
          have hc5:=hJ5.pair.cell
          simp only [pairC] at hc5
          simp only [rsS,mkS] at hc5
          have hSt:=State k1
          rw [show (got5 ((mkS conn other (rA3 conn first other) (rB3 conn first other) 3).e 1)).state=5 from rfl] at hSt
          simp only [List.take_succ_cons,List.take_zero,List.drop_succ_cons,List.drop_zero,eachB,runB]
          repeat' with_reducible refine And.intro ?_ ?_
          all_goals try (
           repeat' first
            |with_reducible refine And.intro ?_ ?_|with_reducible refine kc ?_|((with_reducible first|refine kr ?_ ?_|refine kt ?_ ?_);exact rfl)|((with_reducible refine kf ?_ ?_);exact rfl)|with_reducible refine hSt.use ?_|simp only [go_sem,sevalprocAttr,reduceCtorEq,hc5,stepS,hpL,List.getD_cons_zero,List.getD_cons_succ,List.contains_cons,List.contains_nil,and_imp,forall_eq,implies_true,List.map_cons,List.map_nil]|simp (disch:=omega) only [wz]
            |exact rfl
           done)
          all_goals (
           repeat' first
            |with_reducible refine And.intro ?_ ?_|with_reducible refine kc ?_|((with_reducible first|refine kr ?_ ?_|refine kt ?_ ?_);exact rfl)|((with_reducible refine kf ?_ ?_);exact rfl)|with_reducible refine hSt.use ?_|simp only [go_sem,sevalprocAttr,reduceCtorEq,hc5,stepS,hpL,List.getD_cons_zero,List.getD_cons_succ,List.contains_cons,List.contains_nil,and_imp,forall_eq,implies_true,List.map_cons,List.map_nil]|simp (disch:=omega) only [wz]
            |exact rfl)
         ·rintro ⟨H5,q5⟩ ⟨k1,k2,k3⟩
          have hJ5:=hJ4.trans (hJ4.pair.jE (W:=1) (by omega) k1 k2 k3)
          repeat first|with_reducible refine kc ?_|((with_reducible first|refine kr ?_ ?_|refine kt ?_ ?_);exact rfl)|((with_reducible refine kf ?_ ?_);exact rfl)|simp only [go_sem,sevalprocAttr,reduceCtorEq]|simp (disch:=omega) only [wz]
          refine ⟨_,⟨_,_,_,_,hJ5.pair,rfl,?_,rfl⟩,Weak.env (by simp [envIn,lk_cons,wth_some])⟩
          exact rfl
        ·
         simp only [Int.natCast_one,Nat.sub_self] at hTk hEV ⊢
         apply AWP.regionZ (T:=AHeap×Q) 27 0 (fun t=>EndI t.1 (x3.es 0) (got5 ((mkS conn other (rA3 conn first other) (rB3 conn first other) 3).e 0)) t.2∧Frm ((x3.q 0).names (x3.es 0)) H4 t.1∧∀j∈t.2.names (x3.es 0),j∈(x3.q 0).names (x3.es 0)∨H4.length≤j) [27] [(0,0),(0,0),(0,0),(0,0),(0,0),(0,0),(0,0),(0,0),(0,0),(0,0),(0,0),(0,0),(0,0),(0,0),(0,0),(0,0),(0,0),(0,0),(0,0),(0,0),(0,0),(0,0),(0,0),(0,0),(0,0),(0,0),(0,0),(0,0),(1,0),(1,0),(1,0),(1,0),(1,0),(1,0),(1,0),(1,0),(1,0),(1,0),(1,0),(1,0),(1,0)] [128,129,130,131,132,133,134,135,136,137,138,139,140,141,142,143,144,145,146,147,148,149,150,151,152,153,154] [155,156,157,158,159,160,161,162,163,164,165,166,167,168] [] (fun t=>[t.1]) [(128,_),(129,_),(130,_),(131,_),(132,_),(133,_),(134,_),(135,_),(136,_),(137,_),(138,_),(139,_),(140,_),(141,_),(142,_),(143,_),(144,_),(145,_),(146,_),(147,_),(148,_),(149,_),(150,_),(151,_),(152,_),(153,_),(154,_)] (fun t=>[(155,.int .i64 0),(156,.bool false),(157,.bool false),(158,.bool false),(159,ptr pp3),(160,.int .i64 1),(161,.int .i64 0),(162,ptr pp3),(163,.pointer (some ⟨pp3,0,none⟩)),(164,.pointer (some ⟨pp3,0,none⟩)),(165,ptr (x3.es 0)),(166,.int .i64 5),(167,.bool false),(168,.bool false)])
         ·kernel_rfl
         ·kernel_rfl
         ·kernel_rfl
         ·rfl
         ·rfl
         ·kernel_rfl
         ·kernel_rfl
         ·rfl
         ·intro t;rfl
         ·
          simp only [List.take_succ_cons,List.take_zero,List.drop_succ_cons,List.drop_zero,eachB,runB]
          repeat' with_reducible refine And.intro ?_ ?_
          all_goals try (
           repeat' first
            |with_reducible refine And.intro ?_ ?_|with_reducible refine kc ?_|((with_reducible first|refine kr ?_ ?_|refine kt ?_ ?_);exact rfl)|((with_reducible refine kf ?_ ?_);exact rfl)|simp only [go_sem,sevalprocAttr,reduceCtorEq,hc4,hjr,hg0,stepS,hpL,List.getD_cons_zero,List.getD_cons_succ,List.contains_cons,List.contains_nil,and_imp,forall_eq,implies_true,List.map_cons,List.map_nil]|simp (disch:=omega) only [wz]
            |exact rfl
           done)
          all_goals (
           repeat' first
            |with_reducible refine And.intro ?_ ?_|with_reducible refine kc ?_|((with_reducible first|refine kr ?_ ?_|refine kt ?_ ?_);exact rfl)|((with_reducible refine kf ?_ ?_);exact rfl)|simp only [go_sem,sevalprocAttr,reduceCtorEq,hc4,hjr,hg0,stepS,hpL,List.getD_cons_zero,List.getD_cons_succ,List.contains_cons,List.contains_nil,and_imp,forall_eq,implies_true,List.map_cons,List.map_nil]|simp (disch:=omega) only [wz]
            |exact rfl)
         ·
          repeat first|with_reducible refine kc ?_|((with_reducible first|refine kr ?_ ?_|refine kt ?_ ?_);exact rfl)|((with_reducible refine kf ?_ ?_);exact rfl)|simp only [go_sem,sevalprocAttr,reduceCtorEq,stepZ,hpL,List.getD_cons_zero,List.getD_cons_succ,hc4]|simp (disch:=omega) only [wz]
          refine AC.mono hTk ?_
          rintro r H5 ⟨rfl,q5,k1,k2,k3⟩
          repeat first|with_reducible refine kc ?_|((with_reducible first|refine kr ?_ ?_|refine kt ?_ ?_);exact rfl)|((with_reducible refine kf ?_ ?_);exact rfl)|simp only [go_sem,sevalprocAttr,reduceCtorEq]|simp (disch:=omega) only [wz]
          exact ⟨⟨H5,q5⟩,k1,k2,k3,rfl⟩
         ·rintro ⟨H5,q5⟩ ⟨k1,k2,k3⟩
          have hJ5:=hJ4.trans (hJ4.pair.jE (W:=0) (by omega) k1 k2 k3)
          have hc5:=hJ5.pair.cell
          simp only [pairC] at hc5
          simp only [rsS,mkS] at hc5
          have hSt:=State k1
          rw [show (got5 ((mkS conn other (rA3 conn first other) (rB3 conn first other) 3).e 0)).state=5 from rfl] at hSt
          simp only [List.take_succ_cons,List.take_zero,List.drop_succ_cons,List.drop_zero,eachB,runB]
          repeat' with_reducible refine And.intro ?_ ?_
          all_goals try (
           repeat' first
            |with_reducible refine And.intro ?_ ?_|with_reducible refine kc ?_|((with_reducible first|refine kr ?_ ?_|refine kt ?_ ?_);exact rfl)|((with_reducible refine kf ?_ ?_);exact rfl)|with_reducible refine hSt.use ?_|simp only [go_sem,sevalprocAttr,reduceCtorEq,hc5,stepS,hpL,List.getD_cons_zero,List.getD_cons_succ,List.contains_cons,List.contains_nil,and_imp,forall_eq,implies_true,List.map_cons,List.map_nil]|simp (disch:=omega) only [wz]
            |exact rfl
           done)
          all_goals (
           repeat' first
            |with_reducible refine And.intro ?_ ?_|with_reducible refine kc ?_|((with_reducible first|refine kr ?_ ?_|refine kt ?_ ?_);exact rfl)|((with_reducible refine kf ?_ ?_);exact rfl)|with_reducible refine hSt.use ?_|simp only [go_sem,sevalprocAttr,reduceCtorEq,hc5,stepS,hpL,List.getD_cons_zero,List.getD_cons_succ,List.contains_cons,List.contains_nil,and_imp,forall_eq,implies_true,List.map_cons,List.map_nil]|simp (disch:=omega) only [wz]
            |exact rfl)
         ·rintro ⟨H5,q5⟩ ⟨k1,k2,k3⟩
          have hJ5:=hJ4.trans (hJ4.pair.jE (W:=0) (by omega) k1 k2 k3)
          repeat first|with_reducible refine kc ?_|((with_reducible first|refine kr ?_ ?_|refine kt ?_ ?_);exact rfl)|((with_reducible refine kf ?_ ?_);exact rfl)|simp only [go_sem,sevalprocAttr,reduceCtorEq]|simp (disch:=omega) only [wz]
          refine ⟨_,⟨_,_,_,_,hJ5.pair,rfl,?_,rfl⟩,Weak.env (by simp [envIn,lk_cons,wth_some])⟩
          exact rfl
       ·rintro _ ⟨pp5,x5,H5,ps5,hP5,hnow5,he5,rfl⟩
        have hEV5:=hP5.end_ (1 - W) (by omega)
        rw [he5] at hEV5
        have hidV2:=hidV.got5
        have hsnd5:=Send hEV5 0 hidV2.due hidV2.made (by rw [hidV2.outs];omega) hidV2.few
        rw [hs2] at hsnd5
        have hc5:=hP5.cell
        simp only [pairC] at hc5
        rw [hnow5] at hc5
        have hw1:IntKind.i64.wrap (1 - (W:Int))=((1 - W:Nat):Int):=by rw [wi64 (by omega)];omega
        clear hst hid hs1 ht1 hsnd hc3 hJ4 hc4 hTk hEV hP2 hP3 hP5 hEV5 hEW
        repeat first|with_reducible refine AWP.seqE (x:= .region 21 _ _) (RsN [(0,.int .i64 conn),(1,.int .i64 first),(2,.int .i64 other)]) ?_ ?_|with_reducible refine kc ?_|((with_reducible first|refine kr ?_ ?_|refine kt ?_ ?_);exact rfl)|((with_reducible refine kf ?_ ?_);exact rfl)|simp only [go_sem,sevalprocAttr,reduceCtorEq]|simp (disch:=omega) only [wz]
        ·rcases (by omega:W=0∨W=1) with rfl|rfl
         all_goals
          simp only [Nat.sub_zero,Nat.sub_self,Int.natCast_zero,Int.natCast_one] at hw1 hsnd5 ⊢
          refine AWP.regionM 16 [6,10,11,12,13,14,15] [] (.both (.step 6 (.step 10 (.step 11 (.step 12 (.both (.step 13 (.both (.run [14,15]) (.run [15,14]))) (.run [14,13,15])))))) (.step 10 (.step 6 (.step 11 (.step 12 (.both (.step 13 (.both (.run [14,15]) (.run [15,14]))) (.run [14,13,15]))))))) (by kernel_rfl) (by decide) (by kernel_rfl) (by kernel_rfl) (by kernel_rfl) ?_
          repeat' first|with_reducible refine canW_n ?_|with_reducible refine canW_m (by decide) ?_|((with_reducible apply canW_p (by decide));focus (intro H;(simp only [go_sem,sevalprocAttr,reduceCtorEq,hc5,hw1,List.map_cons,List.map_nil]);exact rfl))|with_reducible refine memW_b ?_ ?_|with_reducible refine memW_s rfl ?_|with_reducible refine memW_r rfl ?_|with_reducible refine memW_e ?_|simp only [List.take_succ_cons,List.take_zero,List.drop_succ_cons,List.drop_zero]|omega|with_reducible refine And.intro ?_ ?_|with_reducible refine kc ?_|((with_reducible first|refine kr ?_ ?_|refine kt ?_ ?_);exact rfl)|((with_reducible refine kf ?_ ?_);exact rfl)|simp only [go_sem,sevalprocAttr,reduceCtorEq,hc5,hw1,List.map_cons,List.map_nil]|simp (disch:=omega) only [wz]
          all_goals
           refine AC.mono hsnd5 ?_
           rintro r H6 ⟨q6,v6,js6,rfl,hE6⟩
           clear hsnd5
           repeat' first|with_reducible refine canW_n ?_|with_reducible refine canW_m (by decide) ?_|((with_reducible apply canW_p (by decide));focus (intro H;(simp only [go_sem,sevalprocAttr,reduceCtorEq,List.map_cons,List.map_nil]);exact rfl))|with_reducible refine memW_b ?_ ?_|with_reducible refine memW_s rfl ?_|with_reducible refine memW_r rfl ?_|with_reducible refine memW_e ?_|simp only [List.take_succ_cons,List.take_zero,List.drop_succ_cons,List.drop_zero]|omega|with_reducible refine And.intro ?_ ?_|with_reducible refine kc ?_|((with_reducible first|refine kr ?_ ?_|refine kt ?_ ?_);exact rfl)|((with_reducible refine kf ?_ ?_);exact rfl)|simp only [go_sem,sevalprocAttr,reduceCtorEq,List.map_cons,List.map_nil]|simp (disch:=omega) only [wz]
           all_goals exact ⟨_,⟨v6,js6,H6,hE6.2.2.2.1,rfl⟩,Weak.env (by simp [envIn,lk_cons,wth_some])⟩
        ·rintro _ ⟨v6,js6,H6,hr6,rfl⟩
         clear hsnd5 hc5 hs2
         have hlw6:∀H' K,lenW Try.prog 31 v6 H' K=K (.int .i64 (0:Nat)) H':=fun H' K=>hr6.lenW
         have n3:=New false conn other 1400 hc ho (by omega) H6
         have a3:=New_end false conn other 1400 H6
         obtain ⟨H7,hH7⟩:∃H7,H7=H6++[AObj.cells (endC (newE false conn other 1400) (newQ (H6.length+1))) kE,.amap [] 0 true]:=⟨_,rfl⟩
         rw [← hH7] at n3 a3
         have hl7:H7.length=H6.length+2:=by rw [hH7];simp
         clear hH7
         have hidC:=idleC0 conn other ho
         have hTk3:=Take (a3.more [.cells (sgD conn first).c ⟨44,0,true,0,none⟩]) 0 (RowS.one H7 (sgD conn first)) (fun j hj hm=>by rw [List.mem_singleton.1 hj] at hm;simp [Q.names,newQ] at hm;omega) (fun p hp=>by rw [List.mem_singleton.1 hp];exact okD conn first hc hf) hidC.take (by simp) (by simp)
         have ht7:=en7 conn first other
         unfold rC0 at ht7
         rw [ht7] at hTk3
         simp only [Sg.c,sgD,sgC] at hTk3
         repeat first|with_reducible refine kc ?_|((with_reducible first|refine kr ?_ ?_|refine kt ?_ ?_);exact rfl)|((with_reducible refine kf ?_ ?_);exact rfl)|with_reducible refine n3.use ?_|simp only [go_sem,sevalprocAttr,reduceCtorEq,hlw6]|simp (disch:=omega) only [wz]
         refine AC.mono hTk3 ?_
         rintro r H8 ⟨rfl,q8,k1,k2,k3⟩
         have hidC1:Idle (rC1 conn other):=hidC.of rfl rfl rfl rfl rfl rfl rfl rfl rfl
         have hsnd8:=Send k1 0 hidC1.due hidC1.made (by rw [hidC1.outs];omega) hidC1.few
         rw [en8] at hsnd8
         repeat first|with_reducible refine kc ?_|((with_reducible first|refine kr ?_ ?_|refine kt ?_ ?_);exact rfl)|((with_reducible refine kf ?_ ?_);exact rfl)|simp only [go_sem,sevalprocAttr,reduceCtorEq]|simp (disch:=omega) only [wz]
         refine AC.mono hsnd8 ?_
         rintro r H9 ⟨q9,v9,js9,rfl,hE9,_,_,hr9,_⟩
         have hSt9:=State hE9
         rw [show (gon (rC1 conn other)).state=0 from rfl] at hSt9
         obtain ⟨jr,off,cap,cs,es,hv,_,hjr,hcap,hle,hg⟩:=hr9.get (i:=0) (x:=sgC5 conn other) rfl
         have hg0:cs[off]? =some (.int .i64 5):=by
          have:=congrArg (fun l:List Value=>l[0]?) hg
          simp only [Nat.zero_mul,Nat.add_zero] at this
          rw [List.getElem?_take_of_lt (by omega),List.getElem?_drop,Nat.add_zero] at this
          rw [this];rfl
         rw [show ([sgC5 conn other]:List Sg).length=1 from rfl] at hv hcap
         subst hv
         repeat first|with_reducible refine kc ?_|((with_reducible first|refine kr ?_ ?_|refine kt ?_ ?_);exact rfl)|((with_reducible refine kf ?_ ?_);exact rfl)|with_reducible (first|refine hSt9.use ?_|refine (haw _).use ?_)|simp only [go_sem,sevalprocAttr,reduceCtorEq,hjr,hg0]|simp (disch:=omega) only [wz]
         exact ⟨_,_,.refl _ _ _,rfl⟩
     have hst:∀V,V<2→((mkS conn other (rA3 conn first other) (rB3 conn first other) 3).e V).state=2:=fun V hV=>by
      rcases (by omega:V=0∨V=1) with rfl|rfl<;> rfl
     have hid:∀V,V<2→Idle ((mkS conn other (rA3 conn first other) (rB3 conn first other) 3).e V):=fun V hV=>by
      rcases (by omega:V=0∨V=1) with rfl|rfl
      ·exact idleA3 conn first other hf
      ·exact idleB3 conn first other ho
     have s0:=State (hP2.end_ 0 (by omega))
     have s1:=State (hP2.end_ 1 (by omega))
     rw [hst 0 (by omega)] at s0
     rw [hst 1 (by omega)] at s1
     obtain ⟨eW,heW⟩:∃eW,eW=(mkS conn other (rA3 conn first other) (rB3 conn first other) 3).e W:=⟨_,rfl⟩
     have hidW:=hid W hW
     have hstW:=hst W hW
     have hEW:=hP2.end_ W hW
     rw [← heW] at hidW hstW hEW
     have hrs:=Reset hEW (by rw [hstW];omega)
     have hput:=hEW.put (rst eW) (x2.q W).told rfl rfl rfl
     obtain ⟨H3,hH3⟩:∃H3,H3=H2.set (x2.es W) (.cells (endC (rst eW) (x2.q W)) kE):=⟨_,rfl⟩
     have hrs:ARet Try.prog 14 [ptr (x2.es W)] H2 (.int .i64 0) H3:=by rw [hH3];exact hrs
     have hput:EndI H3 (x2.es W) (rst eW) (x2.q W):=by rw [hH3];exact hput
     have hJ3:=hP2.jE hW hput (by rw [hH3];exact Frm.set (Frm.refl _ _) (.inl (by simp [PQ.en,Q.names]))) (fun j hj=> .inl hj)
     clear hH3
     have hrs2:=ResetNo hput (.inr rfl)
     have hwn:=WriteNo hput 0 text (by omega) (by show (if (0:Int)<(rst eW).now∨_ then (7:Int) else 0)=0;rw [show (rst eW).now=0 from by rw [show (rst eW).now=eW.now from rfl,heW];rcases (by omega:W=0∨W=1) with h|h<;> rw [h]<;> rfl];rfl) rfl
     have hc2:=hP2.cell
     have hc3:=hJ3.pair.cell
     simp only [pairC] at hc2 hc3
     simp only [mkS] at hc2 hc3
     obtain ⟨WN,hWN⟩:∃n,n=W:=⟨_,rfl⟩
     rcases (by omega:W=0∨W=1) with rfl|rfl
     all_goals
      simp only [Int.natCast_zero,Int.natCast_one]
      repeat first|with_reducible refine kc ?_|((with_reducible first|refine kr ?_ ?_|refine kt ?_ ?_);exact rfl)|((with_reducible refine kf ?_ ?_);exact rfl)|simp only [go_sem,sevalprocAttr,reduceCtorEq]|simp (disch:=omega) only [wz]
      apply AWP.regionX [23] [(0,0),(0,0),(0,0),(0,0),(0,0),(0,0),(0,0),(0,0),(0,0),(0,0),(0,0),(0,0),(0,0),(0,0),(0,0),(0,0),(0,0),(0,0),(0,0),(0,0),(0,0),(0,0),(0,0),(0,0),(1,0),(1,0),(1,0),(1,0),(1,0),(1,0),(1,0),(1,0),(1,0),(1,0),(1,0),(1,0),(1,0),(1,0),(1,0),(1,0),(1,0),(1,0),(1,0),(1,0),(1,0),(1,0),(1,0),(1,0),(1,0),(1,0),(1,0)] [63,64,65,66,67,68,69,70,71,72,73,74,75,76,77,78,79,80,81,82,83,84,85,86,87,88,89,90,91,92,93,94,95,96,97,98,99,100,101,102,103,104,105,106,107,108,109,110,111,112,113] [_] [(63,_),(64,_),(65,_),(66,_),(67,_),(68,_),(69,_),(70,_),(71,_),(72,_),(73,_),(74,_),(75,_),(76,_),(77,_),(78,_),(79,_),(80,_),(81,_),(82,_),(83,_),(84,_),(85,_),(86,_),(87,_),(88,_),(89,_),(90,_),(91,_),(92,_),(93,_),(94,_),(95,_),(96,_),(97,_),(98,_),(99,_),(100,_),(101,_),(102,_),(103,_),(104,_),(105,_),(106,_),(107,_),(108,_),(109,_),(110,_),(111,_),(112,_),(113,_)]
      ·kernel_rfl
      ·kernel_rfl
      ·kernel_rfl
      ·kernel_rfl
      ·rfl
      ·simp only [eachB,runB]
       repeat' with_reducible refine And.intro ?_ ?_
       all_goals try (
        repeat' first
         |with_reducible refine And.intro ?_ ?_|with_reducible refine kc ?_|((with_reducible first|refine kr ?_ ?_|refine kt ?_ ?_);exact rfl)|((with_reducible refine kf ?_ ?_);exact rfl)|with_reducible (first|refine s0.use ?_|refine s1.use ?_|refine hrs.use ?_|refine hrs2.use ?_|refine hwn.use ?_)|simp only [go_sem,sevalprocAttr,reduceCtorEq,hc2,hc3,stepS,hpL,List.getD_cons_zero,List.getD_cons_succ,List.contains_cons,List.contains_nil,and_imp,forall_eq,implies_true,List.map_cons,List.map_nil]|simp (disch:=omega) only [wz]
         |exact rfl
        done)
       all_goals (
        repeat' first
         |with_reducible refine And.intro ?_ ?_|with_reducible refine kc ?_|((with_reducible first|refine kr ?_ ?_|refine kt ?_ ?_);exact rfl)|((with_reducible refine kf ?_ ?_);exact rfl)|with_reducible (first|refine s0.use ?_|refine s1.use ?_|refine hrs.use ?_|refine hrs2.use ?_|refine hwn.use ?_)|simp only [go_sem,sevalprocAttr,reduceCtorEq,hc2,hc3,stepS,hpL,List.getD_cons_zero,List.getD_cons_succ,List.contains_cons,List.contains_nil,and_imp,forall_eq,implies_true,List.map_cons,List.map_nil]|simp (disch:=omega) only [wz]
         |exact rfl)
      repeat first|with_reducible refine kc ?_|((with_reducible first|refine kr ?_ ?_|refine kt ?_ ?_);exact rfl)|((with_reducible refine kf ?_ ?_);exact rfl)|simp only [go_sem,sevalprocAttr,reduceCtorEq]|simp (disch:=omega) only [wz]
      exact ⟨_,⟨_,_,_,by rw [heW] at hJ3;exact hJ3.pair,rfl⟩,Weak.env (by simp [envIn,lk_cons,wth_some])⟩
 ·have hsf:=fun H=>small_f conn first other hr H
  refine AC.enter Try.func3 rfl (by kernel_rfl) 235 rfl [.tmp 10] rfl (by simp) fun hsc B=> ?_
  repeat first|with_reducible refine kc ?_|((with_reducible first|refine kr ?_ ?_|refine kt ?_ ?_);exact rfl)|((with_reducible refine kf ?_ ?_);exact rfl)|with_reducible (first|refine (hsf _).use ?_|refine (haw _).use ?_)|simp only [go_sem,sevalprocAttr,reduceCtorEq]|simp (disch:=omega) only [wz]
  exact ⟨_,_,.refl _ _ _,rfl⟩
end Go.Proofs.Ytdgmcckfdgnicaa
