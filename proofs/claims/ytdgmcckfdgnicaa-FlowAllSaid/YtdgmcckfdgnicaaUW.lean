/-
 Which packet has a number;taking one out of a row.
-/
import Derived.Test.YtdgmcckfdgnicaaUV
set_option linter.unusedVariables false
set_option linter.unusedSimpArgs false
set_option maxRecDepth 20000
set_option maxHeartbeats 8000000
namespace Go.Proofs.Ytdgmcckfdgnicaa
open Go Go.Aw Go.Proofs
theorem gone1 (m b:Nat) (p:Pk) (n:Int) (H:AHeap) (kk:CK) (hm:H[m]? =some (.cells (pkC p) kP)) (hb:H[b]? =some (.cells [.int .i64 n] kk)):ARet Try.prog 76 [ptr m,ptr b] H (.bool (p.number==n)) H:=by
 unfold pkC at hm
 refine AC.enter Try.func76 rfl (by kernel_rfl) 10 rfl [.tmp 3] rfl (by simp) fun hsc B=> ?_
 repeat first|refine kw0 ?_|exact kwz
 apply AWP.regionX [] [(0,0),(0,0),(0,0),(0,0),(0,0),(0,0),(0,0)] [4,5,6,7,8,9,3] [] [(4,_),(5,_),(6,_),(7,_),(8,_),(9,_),(3,_)]
 ·kernel_rfl
 ·kernel_rfl
 ·kernel_rfl
 ·kernel_rfl
 ·rfl
 ·simp only [eachB,runB]
  repeat' with_reducible refine And.intro ?_ ?_
  iterate 2 all_goals try ((repeat' first|with_reducible refine And.intro ?_ ?_|refine kx2 hm hb ?_|exact kwy|exact rfl);done)
 repeat first|refine kw0 ?_|exact kwz
def idxF (fl:List Pk) (n:Int):Int:=match fl.findIdx? fun p=>p.number==n with
 |some i=>i
 |none=> -1
theorem idxF_at {fl:List Pk} {n:Int} {k:Nat} (hk:k<fl.length) (h1:(fl[k].number==n)=true) (h2:∀j,(h:j<fl.length)→j<k→(fl[j].number==n)=false):idxF fl n=k:=by
 unfold idxF
 have:fl.findIdx? (fun p=>p.number==n)=some k:=by
  rw [List.findIdx?_eq_some_iff_getElem]
  exact ⟨hk,h1,fun j hj=>by rw [h2 j (by omega) hj];decide⟩
 rw [this]
theorem idxF_none {fl:List Pk} {n:Int} (h2:∀j,(h:j<fl.length)→(fl[j].number==n)=false):idxF fl n= -1:=by
 unfold idxF
 have:fl.findIdx? (fun p=>p.number==n)=none:=by
  rw [List.findIdx?_eq_none_iff]
  intro x hx
  obtain ⟨i,hi,rfl⟩:=List.getElem_of_mem hx
  exact h2 i hi
 rw [this]
theorem IndexFunc (fv:Value) (fn fj:List Nat) (fl:List Pk) (b:Nat) (n:Int) (kk:CK) (H:AHeap) (hr:RowP H fv fn fj) (hp:PksAt H fn fl) (hl:fl.length<1099511627776) (hb:H[b]? =some (.cells [.int .i64 n] kk)):ARet Try.prog 75 [fv,.func (.func 76) ⟨[]⟩ ⟨[ptr b]⟩] H (.int .i64 (idxF fl n)) H:=by
 have q1:∀H' K,lenW Try.prog 69 fv H' K=K (.int .i64 (fn.length:Nat)) H':=fun H' K=>hr.lenW
 have hll:=hp.1
 refine AC.enter Try.func75 rfl (by kernel_rfl) 19 rfl [.tmp 4] rfl (by simp) fun hsc B=> ?_
 repeat first|with_reducible refine kc ?_|((with_reducible first|refine kr ?_ ?_|refine kt ?_ ?_);exact rfl)|((with_reducible refine kf ?_ ?_);exact rfl)|simp only [go_sem,sevalprocAttr,reduceCtorEq,q1]|simp (disch:=omega) only [wz]|with_reducible_and_instances exact finR|((with_reducible refine finR' ?_ ?_)<;> rfl)|((with_reducible refine finD hsc (NRel.of_plain ?_));exact rfl)
 refine AWP.loopP (fun k:Nat=>⟨[(0,fv),(1,.func (.func 76) ⟨[]⟩ ⟨[ptr b]⟩),(7,.int .i64 (fn.length:Nat)),(8,.int .i64 (k:Nat))],[],H⟩) (fun k=>k≤fl.length∧∀j,(h:j<fl.length)→j<k→(fl[j].number==n)=false) (fun k=>fl.length - k) 0 ?_ ⟨by simp,by simp⟩ ?_
 ·exact Weak.env (by simp [envIn,lk_cons,wth_some])
 rintro k ⟨hk,hall⟩
 simp only at hk hall ⊢
 by_cases hc:k<fl.length
 ·have hc':(k:Int)<(fn.length:Int):=by omega
  have hnk:fn[k]? =some (fn[k]'(by omega)):=List.getElem?_eq_getElem (by omega)
  generalize fn[k]'(by omega)=m at hnk
  obtain ⟨ji,off,cap,cs,rfl,_,hji,hcap,_,_,hg⟩:=hr.get hnk
  have hpm:=hp.2 k m _ hnk (List.getElem?_eq_getElem hc)
  have hO:=gone1 m b fl[k] n H kk hpm hb
  have hwn:IntKind.i64.wrap ((k:Int)+1)=((k+1:Nat):Int):=by rw [wi64 (by omega)];omega
  cases hx:(fl[k].number==n) with
  |true=>
   rw [hx] at hO
   rw [idxF_at hc hx hall]
   repeat first|with_reducible refine hO.use ?_|refine kw4 hc' hji hg hwn ?_|exact kwz
  | false=>
   rw [hx] at hO
   repeat first|with_reducible refine hO.use ?_|refine kw4 hc' hji hg hwn ?_|exact kwz
   refine ⟨k+1,Weak.env (by simp [envIn,lk_cons,wth_some]),by omega,fun j h h'=> ?_,by omega⟩
   rcases Nat.lt_or_ge j k with h2|h2
   ·exact hall j h h2
   ·obtain rfl:j=k:=by omega
    exact hx
 ·have:k=fl.length:=by omega
  subst this
  have hc':¬(fl.length:Int)<(fn.length:Int):=by omega
  rw [idxF_none (fun j h=>hall j h h)]
  repeat first|refine kw1 hc' ?_|exact kwz
theorem Delete {H:AHeap} {v:Value} {l js:List Nat} (h:RowP H v l js) (hl:l.length<1099511627776) (i:Nat) (hi:i<l.length):∃j off cap H2,ARet Try.prog 77 [v,.int .i64 (i:Nat),.int .i64 ((i:Int)+1)] H (.slice (some ⟨j,off,none⟩) (l.length - 1) cap) H2∧RowP H2 (.slice (some ⟨j,off,none⟩) (l.length - 1) cap) (l.eraseIdx i) js∧Frm js H H2∧l.length≤cap∧js=[j]:=by
 rcases h with ⟨_,rfl,_⟩|⟨j,off,cap,cs,rfl,rfl,h3,h4,h5,h6⟩
 ·simp at hi
 have hjl:=lt_of_get h3
 refine ⟨j,off,cap,H.set j (.cells ((putCells cs (off+i) ((l.drop (i+1)).map ptr)).set (off+(l.length - 1)) (.pointer none)) ⟨79,1,true,0,none⟩),?_,?_,Frm.set (Frm.refl _ _) (.inl (List.mem_singleton.2 rfl)),h5,rfl⟩
 ·have hii:((i:Int)==(i:Int)+1)=false:=by simp;omega
  have g1:(i:Int)≤(i:Int)+1:=by omega
  have g2:(i:Int)+1≤(l.length:Int):=by omega
  have g3:(l.length:Int)≤(cap:Int):=by omega
  have g4:(i:Int)≤(cap:Int):=by omega
  have g5:0≤(i:Int):=by omega
  have g6:0≤(i:Int)+1:=by omega
  have t1:((i:Int)+1).toNat=i+1:=by omega
  have hsrc:List.take (l.length - (i+1)) (List.drop (off+(i+1)) cs)=(l.drop (i+1)).map ptr:=by
   rw [← List.drop_drop,←List.drop_take,h6,List.map_drop]
  obtain ⟨news,hnews⟩:∃news,news=(l.drop (i+1)).map ptr:=⟨_,rfl⟩
  rw [← hnews] at hsrc ⊢
  have hnl:news.length=l.length - (i+1):=by rw [hnews];simp
  have happ:∀K:Value→AHeap→Prop,K (.slice (some ⟨j,off,none⟩) (l.length - 1) cap) (H.set j (.cells (putCells cs (off+i) news) ⟨79,1,true,0,none⟩))→appendTo Try.prog 79 1 8 (.slice (some ⟨j,off,none⟩) i cap) (l.length - (i+1)) news H K:=fun K hK=>by
   unfold appendTo
   simp only [h3]
   refine ⟨fun _=>⟨fun h0=> ?_,fun h0=>⟨⟨⟨rfl,Nat.zero_le _⟩,by omega⟩,?_⟩⟩,fun h=>absurd (by omega) h⟩
   ·have:news=[]:=List.eq_nil_of_length_eq_zero (by omega)
    rw [this] at hK
    rw [show l.length - 1=i by omega,show putCells cs (off+i) []=cs from rfl,set_same h3] at hK
    exact hK
   ·rw [show i+(l.length - (i+1))=l.length - 1 by omega,Nat.mul_one]
    exact hK
  refine AC.enter Try.func77 rfl (by kernel_rfl) 33 rfl [.tmp 6] rfl (by simp) fun hsc B=> ?_
  repeat first|refine kw10 h3 hii g1 g2 g3 g4 g5 g6 t1 @Option.isSome_some.{0} ?_|exact kwz
  refine AWP.regionK 6 (by kernel_rfl) (by decide) (by kernel_rfl) ?_
  repeat first|refine kw9 h3 g1 g2 g3 g4 g5 g6 t1 hsrc ?_|exact kwz
  refine ⟨by omega,by rw [hnews,List.all_map];exact List.all_eq_true.2 fun x _=>rfl,hnl,happ _ ?_⟩
  have k1:((l.length - 1:Nat):Int)≤(l.length:Int):=by omega
  have k2:l.length - (l.length - 1)=1:=by omega
  have k3:putCells cs (off+i) news=putCells cs (off+i) news:=rfl
  repeat first|refine kw4 hjl g3 k1 k2 ?_|exact kwz
  refine ⟨by rw [putCells_length];omega,?_⟩
  repeat first|refine kw0 ?_|exact kwz
 ·have hnl:((l.drop (i+1)).map ptr).length=l.length - (i+1):=by simp
  have hlen:(l.eraseIdx i).length=l.length - 1:=by rw [List.length_eraseIdx,if_pos hi]
  have hti:(cs.drop off).take i=(l.take i).map ptr:=by
   rw [List.map_take,←h6,List.take_take,Nat.min_eq_left (by omega)]
  refine .inr ⟨j,off,cap,_,by rw [hlen],rfl,List.getElem?_set_self hjl,by rw [List.length_set,putCells_length];exact h4,by omega,?_⟩
  have hdrop:(putCells cs (off+i) ((l.drop (i+1)).map ptr)).drop off=(l.take i).map ptr++((l.drop (i+1)).map ptr++cs.drop (off+i+(l.length - (i+1)))):=by
   rw [putCells_eq _ _ _ (by omega),hnl,List.append_assoc,List.drop_append_of_le_length (by rw [List.length_take];omega),List.drop_take,Nat.add_sub_cancel_left,hti]
  have hlt:((l.take i).map ptr).length=i:=by rw [List.length_map,List.length_take];omega
  rw [hlen,List.drop_set,if_neg (by omega),Nat.add_sub_cancel_left,List.take_set_of_le (Nat.le_refl _),hdrop,←List.append_assoc,List.take_append_of_le_length (by rw [List.length_append,hlt,hnl];omega),List.take_of_length_le (by rw [List.length_append,hlt,hnl];omega),List.eraseIdx_eq_take_drop_succ,List.map_append]
end Go.Proofs.Ytdgmcckfdgnicaa
