/-
 Rows of packets on the way.
-/
import Derived.Test.YtdgmcckfdgnicaaUQ
import Derived.Test.YtdgmcckfdgnicaaAwB
set_option linter.unusedVariables false
set_option linter.unusedSimpArgs false
set_option maxRecDepth 20000
set_option maxHeartbeats 8000000
namespace Go.Proofs.Ytdgmcckfdgnicaa
open Go Go.Aw Go.Proofs
def sgF (l:List Sg):List Value:=(l.map Sg.c).flatten
theorem sgF_len:∀l:List Sg,(sgF l).length=l.length*9
 |[]=>rfl
 |x::l=>by
  have:=sgF_len l
  unfold sgF at*
  rw [List.map_cons,List.flatten_cons,List.length_append,this,List.length_cons]
  have:x.c.length=9:=rfl
  omega
theorem sgF_append (l m:List Sg):sgF (l++m)=sgF l++sgF m:=by unfold sgF;rw [List.map_append,List.flatten_append]
theorem sgF_cons (x:Sg) (m:List Sg):sgF (x::m)=x.c++sgF m:=rfl
theorem sgF_take:∀(l:List Sg) (n:Nat),(sgF l).take (n*9)=sgF (l.take n)
 |[],n=>by simp [sgF]
 |x::l,0=>by simp [sgF]
 |x::l,n+1=>by
  have hx:x.c.length=9:=rfl
  rw [sgF_cons,List.take_succ_cons,sgF_cons,List.take_append,hx,←sgF_take l n,List.take_of_length_le (by omega),show (n+1)*9 - 9=n*9 by omega]
theorem sgF_drop:∀(l:List Sg) (n:Nat),(sgF l).drop (n*9)=sgF (l.drop n)
 |[],n=>by simp [sgF]
 |x::l,0=>by simp [sgF]
 |x::l,n+1=>by
  have hx:x.c.length=9:=rfl
  rw [sgF_cons,List.drop_succ_cons,List.drop_append,hx,←sgF_drop l n,List.drop_eq_nil_of_le (by omega),List.nil_append,show (n+1)*9 - 9=n*9 by omega]
theorem sgF_at {l:List Sg} {i:Nat} {x:Sg} (h:l[i]? =some x):((sgF l).drop (i*9)).take 9=x.c:=by
 have hi:=(List.getElem?_eq_some_iff.1 h).1
 have hx:x.c.length=9:=rfl
 rw [sgF_drop,List.drop_eq_getElem_cons hi,sgF_cons,List.take_append,(List.getElem?_eq_some_iff.1 h).2,List.take_of_length_le (by omega),hx]
 simp
def RowS (H:AHeap) (v:Value) (l:List Sg) (js:List Nat):Prop:=
 (v= .slice none 0 0∧l=[]∧js=[])∨∃j off cap cs es,v= .slice (some ⟨j,off,none⟩) l.length cap∧js=[j]∧H[j]? =some (.cells cs ⟨44,es,true,0,none⟩)∧(es=9∨es=0)∧off+cap*9=cs.length∧l.length≤cap∧(cs.drop off).take (l.length*9)=sgF l
theorem RowS.nil (H:AHeap):RowS H (.slice none 0 0) [] []:= .inl ⟨rfl,rfl,rfl⟩
theorem RowS.lenW {H H':AHeap} {v:Value} {l:List Sg} {js:List Nat} {K:Value→AHeap→Prop} (h:RowS H v l js):lenW Try.prog 31 v H' K=K (.int .i64 (l.length:Nat)) H':=by
 rcases h with ⟨rfl,rfl,_⟩|⟨j,off,cap,cs,es,rfl,_⟩
 ·simp only [go_sem,sevalprocAttr,reduceCtorEq]
 ·simp only [go_sem,sevalprocAttr,reduceCtorEq]
theorem RowS.frm {S:List Nat} {H H2:AHeap} {v:Value} {l:List Sg} {js:List Nat} (h:RowS H v l js) (hf:Frm S H H2) (hs:∀j∈js,j∉S):RowS H2 v l js:=by
 rcases h with h|⟨j,off,cap,cs,es,h1,rfl,h3,h4⟩
 ·exact .inl h
 ·exact .inr ⟨j,off,cap,cs,es,h1,rfl,hf.get h3 (hs j (List.mem_singleton.2 rfl)),h4⟩
theorem RowS.more {H:AHeap} {v:Value} {l:List Sg} {js:List Nat} (h:RowS H v l js) (X:AHeap):RowS (H++X) v l js:=h.frm (S:=[]) Frm.app (by simp)
theorem RowS.lt {H:AHeap} {v:Value} {l:List Sg} {js:List Nat} (h:RowS H v l js):∀j∈js,j<H.length:=by
 rcases h with ⟨_,_,rfl⟩|⟨j,off,cap,cs,es,h1,rfl,h3,_⟩
 ·intro j hj;cases hj
 ·intro i hi;rw [List.mem_singleton.1 hi];exact lt_of_get h3
theorem RowS.cells {H:AHeap} {v:Value} {l:List Sg} {js:List Nat} (h:RowS H v l js):cellsOf v=[v]∧flat v=true:=by
 rcases h with ⟨rfl,_,_⟩|⟨j,off,cap,cs,es,rfl,_⟩<;> exact ⟨rfl,rfl⟩
theorem RowS.get {H:AHeap} {v:Value} {l:List Sg} {js:List Nat} (h:RowS H v l js) {i:Nat} {x:Sg} (hi:l[i]? =some x):
  ∃j off cap cs es,v= .slice (some ⟨j,off,none⟩) l.length cap∧js=[j]∧H[j]? =some (.cells cs ⟨44,es,true,0,none⟩)∧l.length≤cap∧off+(i*9+9)≤cs.length∧(cs.drop (off+i*9)).take 9=x.c:=by
 rcases h with ⟨_,rfl,_⟩|⟨j,off,cap,cs,es,h1,h2,h3,h4,h5,h6,h7⟩
 ·simp at hi
 ·have hlt:=(List.getElem?_eq_some_iff.1 hi).1
  refine ⟨j,off,cap,cs,es,h1,h2,h3,h6,by omega,?_⟩
  have:=sgF_at hi
  rw [← h7,List.drop_take,List.drop_drop,List.take_take,Nat.min_eq_left (by omega)] at this
  exact this
theorem putCells_end {cs:List Value} {off n:Nat} {new:List Value} (h:off+n+new.length≤cs.length):((putCells cs (off+n) new).drop off).take (n+new.length)=(cs.drop off).take n++new:=by
 rw [putCells_eq _ _ _ h,List.append_assoc,List.drop_append,List.length_take,Nat.min_eq_left (by omega),Nat.sub_eq_zero_of_le (by omega),List.drop_zero,List.drop_take,Nat.add_sub_cancel_left]
 rw [List.take_append,List.length_take,List.length_drop,Nat.min_eq_left (by omega),Nat.add_sub_cancel_left,List.take_append,Nat.sub_self,List.take_zero,List.append_nil,List.take_take,Nat.min_eq_right (by omega),List.take_of_length_le (Nat.le_refl _)]
theorem RowS.appendD {H:AHeap} {v:Value} {l:List Sg} {js:List Nat} (h:RowS H v l js) (ns:List Sg) (hl:l.length+ns.length<1099511627776):
  ∃v2 H2 js2,RowS H2 v2 (l++ns) js2∧Frm js H H2∧ (∀ j∈js2,j∈js∨j=H.length)∧∀K:Value→AHeap→Prop,K v2 H2→appendTo Try.prog 44 9 88 v ns.length (sgF ns) H K:=by
 have hsl:=sgF_len ns
 rcases h with ⟨rfl,rfl,rfl⟩|⟨j,off,cap,cs,es,rfl,rfl,h3,hes,h4,h5,h6⟩
 ·by_cases h0:ns.length=0
  ·have:ns=[]:=List.eq_nil_of_length_eq_zero h0
   subst this
   exact ⟨_,H,[],.inl ⟨rfl,rfl,rfl⟩,Frm.refl _ _,by simp,fun K hK=>⟨⟨rfl,rfl⟩,fun _=>hK,fun h=>absurd rfl h⟩⟩
  ·refine ⟨.slice (some ⟨H.length,0,none⟩) ns.length ns.length,H++ [.cells (sgF ns) ⟨44,9,true,0,none⟩],[H.length],.inr ⟨H.length,0,ns.length,sgF ns,9,rfl,rfl,hget0 rfl,.inl rfl,by omega,by simp,?_⟩,Frm.app,fun j hj=> .inr (List.mem_singleton.1 hj),fun K hK=>⟨⟨rfl,rfl⟩,fun h=>absurd h h0,fun _=>⟨⟨by simp at hl;omega,by simp at hl;omega⟩,hK⟩⟩⟩
   rw [List.drop_zero,List.nil_append,←hsl,List.take_length]
 ·have hjl:=lt_of_get h3
  have hls:=sgF_len l
  by_cases hc:l.length+ns.length≤cap
  ·by_cases h0:ns.length=0
   ·have:ns=[]:=List.eq_nil_of_length_eq_zero h0
    subst this
    refine ⟨.slice (some ⟨j,off,none⟩) l.length cap,H,[j],.inr ⟨j,off,cap,cs,es,by simp,rfl,h3,hes,h4,by simpa using h5,by simpa using h6⟩,Frm.refl _ _,fun i hi=> .inl hi,fun K hK=> ?_⟩
    unfold appendTo
    simp only [h3]
    exact ⟨fun _=>⟨fun _=>by simpa using hK,fun h=>absurd rfl h⟩,fun h=>absurd hc h⟩
   ·refine ⟨.slice (some ⟨j,off,none⟩) (l.length+ns.length) cap,H.set j (.cells (putCells cs (off+l.length*9) (sgF ns)) ⟨44,es,true,0,none⟩),[j],.inr ⟨j,off,cap,putCells cs (off+l.length*9) (sgF ns),es,by simp,rfl,List.getElem?_set_self hjl,hes,?_,by simp;omega,?_⟩,Frm.set (Frm.refl _ _) (.inl (List.mem_singleton.2 rfl)),fun i hi=> .inl hi,fun K hK=> ?_⟩
    ·rw [putCells_length];exact h4
    ·rw [sgF_append,←h6,List.length_append,Nat.add_mul,←hsl]
     exact putCells_end (by omega)
    ·unfold appendTo
     simp only [h3]
     exact ⟨fun _=>⟨fun h=>absurd h h0,fun _=>⟨⟨⟨rfl,Nat.zero_le _⟩,by omega⟩,hK⟩⟩,fun h=>absurd hc h⟩
  ·have hnew:(List.drop 0 (sgF l++sgF ns)).take ((l++ns).length*9)=sgF (l++ns):=by
    rw [List.drop_zero,sgF_append,List.take_of_length_le (by simp;omega)]
   rcases hes with rfl|rfl
   ·refine ⟨.slice (some ⟨H.length,0,none⟩) (l.length+ns.length) (l.length+ns.length),H.set j .dead++ [.cells (sgF l++sgF ns) ⟨44,9,true,0,none⟩],[H.length],.inr ⟨H.length,0,l.length+ns.length,sgF l++sgF ns,9,by simp,rfl,hget0 (by simp),.inl rfl,by rw [List.length_append];omega,by simp,hnew⟩,(Frm.set (Frm.refl _ _) (.inl (List.mem_singleton.2 rfl))).more,fun i hi=> .inr (List.mem_singleton.1 hi),fun K hK=> ?_⟩
    unfold appendTo
    simp only [h3]
    exact ⟨fun h=>absurd h hc,fun _=>⟨⟨by omega,by omega,by omega⟩,fun _=>⟨⟨trivial,trivial,Nat.zero_le _,trivial⟩,by rw [h6,Nat.zero_sub];exact hK⟩,fun hno=>absurd ⟨by decide,by omega⟩ hno⟩⟩
   ·refine ⟨.slice (some ⟨H.length,0,none⟩) (l.length+ns.length) (l.length+ns.length),H++ [.cells (sgF l++sgF ns) ⟨44,9,true,0,none⟩],[H.length],.inr ⟨H.length,0,l.length+ns.length,sgF l++sgF ns,9,by simp,rfl,hget0 rfl,.inl rfl,by rw [List.length_append];omega,by simp,hnew⟩,Frm.app,fun i hi=> .inr (List.mem_singleton.1 hi),fun K hK=> ?_⟩
    unfold appendTo
    simp only [h3]
    exact ⟨fun h=>absurd h hc,fun _=>⟨⟨by omega,by omega,by omega⟩,fun h0=>absurd rfl h0.1,fun _=>by rw [h6];exact hK⟩⟩
theorem RowS.cut {H:AHeap} {l:List Sg} {js:List Nat} {j off cap L:Nat} (h:RowS H (.slice (some ⟨j,off,none⟩) L cap) l js) {n:Nat} (hn:n≤l.length):RowS H (.slice (some ⟨j,off+n*9,none⟩) (L - n) (cap - n)) (l.drop n) js∧RowS H (.slice (some ⟨j,off,none⟩) n cap) (l.take n) js:=by
 rcases h with ⟨h,_⟩|⟨j2,off2,cap2,cs,es,h1,h2,h3,h4,h5,h6,h7⟩
 ·cases h
 ·cases h1
  refine ⟨.inr ⟨j,off+n*9,cap - n,cs,es,by rw [List.length_drop],h2,h3,h4,by rw [Nat.sub_mul];omega,by rw [List.length_drop];omega,?_⟩,.inr ⟨j,off,cap,cs,es,by rw [List.length_take,Nat.min_eq_left hn],h2,h3,h4,h5,by rw [List.length_take];omega,?_⟩⟩
  ·have:=sgF_drop l n
   rw [← h7,List.drop_take,List.drop_drop] at this
   rw [List.length_drop,←this,Nat.sub_mul]
  ·have:=sgF_take l n
   rw [← h7,List.take_take] at this
   rw [List.length_take,←this,Nat.min_eq_left hn,Nat.min_eq_left (by omega)]
end Go.Proofs.Ytdgmcckfdgnicaa
