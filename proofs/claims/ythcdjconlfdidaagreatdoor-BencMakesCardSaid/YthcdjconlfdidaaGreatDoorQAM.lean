/-
  A part of the proof of a statement of this seat.
-/
import Derived.Test.YthcdjconlfdidaaGreatDoorE3
import Derived.Test.YthcdjconlfdidaaGreatDoorAwC
set_option linter.unusedVariables false
set_option linter.unusedSimpArgs false
set_option maxRecDepth 20000
namespace Go.Proofs.YthcdjconlfdidaaGreatDoor
open Go Go.Aw Go.Proofs
def KeyS (ex:Bool) (H:AHeap) (keys:List Tx) (v:Value) (S:List Nat):Prop:=
 (keys=[]∧v= .slice none 0 0∧S=[])∨∃b z,v= .slice (some ⟨b,0,none⟩) keys.length keys.length∧H[b]? =some (.cells (strsC keys) ⟨9,z,!ex,0,none⟩)∧(z=1∨z=0)∧(ex=true→z=0)∧S=(if ex then [] else [b])
mutual
def OwnV (ex:Bool) (H:AHeap):BV→List Value→List Nat→Prop
 | .mk k n s kids keys,cs,S=>∃vs a css b Sk,cs= [.int .i64 k,.int .i64 n,.string (bs s),.slice (some ⟨a,0,none⟩) kids.length kids.length,vs]∧H[a]? =some (.cells css.flatten ⟨27,0,true,0,none⟩)∧KeyS ex H keys vs b∧OwnL ex H kids css Sk∧S=a::(b++Sk)
def OwnL (ex:Bool) (H:AHeap):List BV→List (List Value)→List Nat→Prop
 |[],css,S=>css=[]∧S=[]
 |v::l,css,S=>∃cs r S1 S2,css=cs::r∧OwnV ex H v cs S1∧OwnL ex H l r S2∧S=S1++S2
end
theorem KeyS.same {ex:Bool} {H H2:AHeap} {keys:List Tx} {v:Value} {S:List Nat} (h:KeyS ex H keys v S) (hs:∀s∈S,H2[s]? =H[s]?) (hk:Kept H H2):KeyS ex H2 keys v S:=by
 rcases h with h|⟨b,z,e,hb,hz,hx,hS⟩
 ·exact .inl h
 ·refine .inr ⟨b,z,e,?_,hz,hx,hS⟩
  cases ex with
  |true=>exact hk _ _ _ hb rfl
  |false=>rw [hs b (by rw [hS];simp)];exact hb
mutual
theorem OwnV.same {ex:Bool} {H H2:AHeap} (hk:Kept H H2):∀{v:BV} {cs:List Value} {S:List Nat},OwnV ex H v cs S→ (∀ s∈S,H2[s]? =H[s]?)→OwnV ex H2 v cs S
 | .mk k n s kids keys,cs,S,h,hs=>by
  unfold OwnV at h ⊢
  obtain ⟨vs,a,css,b,Sk,e,h1,h2,h3,rfl⟩:=h
  exact ⟨vs,a,css,b,Sk,e,by rw [hs a (by simp)];exact h1,h2.same (fun s h=>hs s (by simp [h])) hk,OwnL.same hk h3 (fun s h=>hs s (by simp [h])),rfl⟩
theorem OwnL.same {ex:Bool} {H H2:AHeap} (hk:Kept H H2):∀{l:List BV} {css:List (List Value)} {S:List Nat},OwnL ex H l css S→ (∀ s∈S,H2[s]? =H[s]?)→OwnL ex H2 l css S
 |[],css,S,h,hs=>by unfold OwnL at h ⊢;exact h
 |v::l,css,S,h,hs=>by
  unfold OwnL at h ⊢
  obtain ⟨cs,r,S1,S2,e,h1,h2,rfl⟩:=h
  exact ⟨cs,r,S1,S2,e,OwnV.same hk h1 (fun s h=>hs s (by simp [h])),OwnL.same hk h2 (fun s h=>hs s (by simp [h])),rfl⟩
end
theorem OwnL.len {ex:Bool} {H:AHeap}:∀{l:List BV} {css:List (List Value)} {S:List Nat},OwnL ex H l css S→css.length=l.length
 |[],css,S,h=>by unfold OwnL at h;rw [h.1];rfl
 |v::l,css,S,h=>by
  unfold OwnL at h
  obtain ⟨cs,r,S1,S2,e,h1,h2,_⟩:=h
  rw [e,List.length_cons,List.length_cons,h2.len]
theorem OwnV.len {ex:Bool} {H:AHeap} {v:BV} {cs:List Value} {S:List Nat} (h:OwnV ex H v cs S):cs.length=5:=by
 cases v
 unfold OwnV at h
 obtain ⟨vs,a,css,b,Sk,e,_⟩:=h
 rw [e];rfl
theorem KeyS.flat {ex:Bool} {H:AHeap} {keys:List Tx} {v:Value} {S:List Nat} (h:KeyS ex H keys v S):Go.Aw.flat v=true:=by
 rcases h with ⟨_,rfl,_⟩|⟨_,_,rfl,_⟩<;> rfl
theorem OwnV.flat {ex:Bool} {H:AHeap} {v:BV} {cs:List Value} {S:List Nat} (h:OwnV ex H v cs S):cs.all Go.Aw.flat=true:=by
 cases v
 unfold OwnV at h
 obtain ⟨vs,a,css,b,Sk,rfl,_,h2,_⟩:=h
 have:=h2.flat
 simp only [List.all_cons,List.all_nil,this,Bool.and_true]
 rfl
theorem OwnL.all5 {ex:Bool} {H:AHeap}:∀{l:List BV} {css:List (List Value)} {S:List Nat},OwnL ex H l css S→∀cs∈css,cs.length=5
 |[],css,S,h=>by unfold OwnL at h;rw [h.1];simp
 |v::l,css,S,h=>by
  unfold OwnL at h
  obtain ⟨cs,r,S1,S2,e,h1,h2,_⟩:=h
  rw [e]
  intro c hc
  rcases List.mem_cons.1 hc with rfl|hc
  ·exact h1.len
  ·exact h2.all5 c hc
theorem OwnL.snoc {ex:Bool} {H:AHeap}:∀{l:List BV} {css:List (List Value)} {S:List Nat} {v:BV} {cs:List Value} {S2:List Nat},OwnL ex H l css S→OwnV ex H v cs S2→OwnL ex H (l++[v]) (css++[cs]) (S++S2)
 |[],css,S,v,cs,S2,h,hv=>by
  unfold OwnL at h
  rw [h.1,h.2]
  exact (show OwnL ex H (v::[]) (cs::[]) S2 by unfold OwnL;exact ⟨cs,[],S2,[],rfl,hv,by unfold OwnL;exact ⟨rfl,rfl⟩,by simp⟩)
 |u::l,css,S,v,cs,S2,h,hv=>by
  unfold OwnL at h
  obtain ⟨c,r,S1,S3,e,h1,h2,rfl⟩:=h
  rw [e]
  exact (show OwnL ex H (u::(l++[v])) (c::(r++[cs])) (S1++S3++S2) by unfold OwnL;exact ⟨c,r++[cs],S1,S3++S2,rfl,h1,h2.snoc hv,by simp⟩)
theorem OwnL.split {ex:Bool} {H:AHeap}:∀{l:List BV} {css:List (List Value)} {S:List Nat} {i:Nat} {v:BV},OwnL ex H l css S→l[i]? =some v→∃cs A S1 C,css[i]? =some cs∧OwnV ex H v cs S1∧S=A++(S1++C)∧
  (∀ (j:Nat) (u:BV),l[j]? =some u→j≠i→∃cj Sj,css[j]? =some cj∧OwnV ex H u cj Sj∧∀s∈Sj,s∈A∨s∈C)
 |[],css,S,i,v,h,e=>by simp at e
 | u ::l,css,S,0,v,h,e=>by
  unfold OwnL at h
  obtain ⟨c,r,S1,S2,rfl,h1,h2,rfl⟩:=h
  cases e
  refine ⟨c,[],S1,S2,rfl,h1,by simp,fun j w hj hne=> ?_⟩
  cases j with
  |zero=>exact absurd rfl hne
  | succ j=>
   have key:∀{l:List BV} {r:List (List Value)} {S2:List Nat} {j:Nat} {w:BV},OwnL ex H l r S2→l[j]? =some w→∃cj Sj,r[j]? =some cj∧OwnV ex H w cj Sj∧∀s∈Sj,s∈S2:=fun {l}=>by
    induction l with
    |nil=>intro r S2 j w h e;simp at e
    | cons x l ih=>
     intro r S2 j w h e
     unfold OwnL at h
     obtain ⟨c,r,T1,T2,rfl,g1,g2,rfl⟩:=h
     cases j with
     |zero=>cases e;exact ⟨c,T1,rfl,g1,fun s hs=>by simp [hs]⟩
     |succ j=>
      obtain ⟨cj,Sj,k1,k2,k3⟩:=ih g2 (by simpa using e)
      exact ⟨cj,Sj,by simpa using k1,k2,fun s hs=>by simp [k3 s hs]⟩
   obtain ⟨cj,Sj,k1,k2,k3⟩:=key h2 (by simpa using hj)
   exact ⟨cj,Sj,by simpa using k1,k2,fun s hs=> .inr (k3 s hs)⟩
 | u::l,css,S,i+1,v,h,e=>by
  unfold OwnL at h
  obtain ⟨c,r,S1,S2,rfl,h1,h2,rfl⟩:=h
  obtain ⟨cs,A,T,C,k1,k2,rfl,k4⟩:=h2.split (i:=i) (v:=v) (by simpa using e)
  refine ⟨cs,S1++A,T,C,by simpa using k1,k2,by simp,fun j w hj hne=> ?_⟩
  cases j with
  |zero=>cases hj;exact ⟨c,S1,rfl,h1,fun s hs=> .inl (by simp [hs])⟩
  |succ j=>
   obtain ⟨cj,Sj,m1,m2,m3⟩:=k4 j w (by simpa using hj) (fun h=>hne (by omega))
   refine ⟨cj,Sj,by simpa using m1,m2,fun s hs=> ?_⟩
   rcases m3 s hs with h|h
   ·exact .inl (by simp [h])
   ·exact .inr h
theorem strs_flat (keys:List Tx):(keyC keys).flatten=strsC keys:=by
 unfold keyC strsC
 induction keys with
 |nil=>rfl
 |cons k keys ih=>rw [List.map_cons,List.flatten_cons,ih];rfl
theorem KeyS.rd {ex:Bool} {H:AHeap} {keys:List Tx} {v:Value} {S T:List Nat} (h:KeyS ex H keys v S) (hT:∀s∈S,s∈T):RdK (fz H T) 1 v (keyC keys):=by
 rcases h with ⟨rfl,rfl,_⟩|⟨b,z,rfl,hb,hz,hx,hS⟩
 ·exact .inl ⟨rfl,rfl⟩
 ·obtain ⟨k2,g1,g2,g3,g4,g5⟩:=fz_cells (S:=T) hb
  have hkl:=keyC_len keys
  have ho:k2.own=false:=by
   cases ex with
   |true=>exact g5 rfl
   |false=>exact g4 (hT b (by rw [hS];simp))
  refine .inr ⟨b,0,keys.length,_,k2,by rw [hkl],by rw [hkl];exact Nat.le_refl _,g1,ho,by rw [g3];exact hz,by rw [hkl,strsC_len];omega,fun j r hj=> ?_⟩
  have h1:∀r∈keyC keys,r.length=1:=fun r hr=>by
   unfold keyC at hr
   obtain ⟨x,_,rfl⟩:=List.mem_map.1 hr
   rfl
  rw [Nat.zero_add,←strs_flat]
  exact flat_at h1 hj
mutual
theorem OwnV.rd {ex:Bool} {H:AHeap} {T:List Nat}:∀{v:BV} {cs:List Value} {S:List Nat},OwnV ex H v cs S→ (∀ s∈S,s∈T)→RdV (fz H T) v cs
 | .mk k n s kids keys,cs,S,h,hT=>by
  unfold OwnV at h
  unfold RdV
  obtain ⟨vs,a,css,b,Sk,rfl,h1,h2,h3,rfl⟩:=h
  have h5:=h3.all5
  have hl:=h3.len
  obtain ⟨k2,g1,g2,g3,g4,g5⟩:=fz_cells (S:=T) h1
  refine ⟨_,vs,css,rfl,.inr ⟨a,0,kids.length,_,k2,by rw [hl],by rw [hl];exact Nat.le_refl _,g1,g4 (hT a (by simp)),.inr g3,by rw [flat_len h5];omega,fun j r hj=> ?_⟩,OwnL.rd h3 (fun s hs=>hT s (by simp [hs])),h2.rd (fun s hs=>hT s (by simp [hs]))⟩
  rw [Nat.zero_add]
  exact flat_at h5 hj
theorem OwnL.rd {ex:Bool} {H:AHeap} {T:List Nat}:∀{l:List BV} {css:List (List Value)} {S:List Nat},OwnL ex H l css S→ (∀ s∈S,s∈T)→RdL (fz H T) l css
 |[],css,S,h,hT=>by unfold OwnL at h;unfold RdL;exact h.1
 |v::l,css,S,h,hT=>by
  unfold OwnL at h
  unfold RdL
  obtain ⟨cs,r,S1,S2,e,h1,h2,rfl⟩:=h
  exact ⟨cs,r,e,OwnV.rd h1 (fun s hs=>hT s (by simp [hs])),OwnL.rd h2 (fun s hs=>hT s (by simp [hs]))⟩
end
end Go.Proofs.YthcdjconlfdidaaGreatDoor

set_option linter.unusedVariables false
set_option linter.unusedSimpArgs false
set_option maxRecDepth 20000
set_option maxHeartbeats 4000000
namespace Go.Proofs.YthcdjconlfdidaaGreatDoor
open Go Go.Aw Go.Proofs
end Go.Proofs.YthcdjconlfdidaaGreatDoor

set_option linter.unusedVariables false
set_option linter.unusedSimpArgs false
set_option maxRecDepth 20000
set_option maxHeartbeats 4000000
namespace Go.Proofs.YthcdjconlfdidaaGreatDoor
open Go Go.Aw Go.Proofs
def insAt {α :Type} (l:List α) (i:Nat) (x:α):List α:=l.take i++x::l.drop i
theorem strs_ins (l:List Tx) (i:Nat) (t:Tx):strsC (insAt l i t)=(strsC l).take i++(Value.string (bs t)::(strsC l).drop i):=by
 unfold insAt strsC
 simp [List.map_take,List.map_drop]
theorem appendTo_nn {P:Program} {e:TypeId} {size y n:Nat} {news:List Value} {H:AHeap} {K:Value→AHeap→Prop} (hn:n≠0) (h1:n*y≤140737488355328) (h2:n≤4611686018427387904)
  (hk:K (.slice (some ⟨H.length,0,none⟩) n n) (H++ [.cells news ⟨e,size,true,0,none⟩])):appendTo P e size y (.slice none 0 0) n news H K:=
 ⟨⟨rfl,rfl⟩,fun h=>absurd h hn,fun _=>⟨⟨h1,h2⟩,hk⟩⟩
theorem appendTo_x {P:Program} {e:TypeId} {size y i off len cap n:Nat} {news cs:List Value} {k:CK} {H:AHeap} {K:Value→AHeap→Prop} (hi:H[i]? =some (.cells cs k)) (hz:k.esz=0) (hc:cap<len+n) (hle:off+len*size≤cs.length) (h1:(len+n)*y≤140737488355328) (h2:len+n≤4611686018427387904)
  (hk:K (.slice (some ⟨H.length,0,none⟩) (len+n) (len+n)) (H++ [.cells ((cs.drop off).take (len*size)++news) ⟨e,size,true,0,none⟩])):appendTo P e size y (.slice (some ⟨i,off,none⟩) len cap) n news H K:=by
 unfold appendTo
 simp only [hi]
 exact ⟨fun h=>by omega,fun _=>⟨⟨hle,h1,h2⟩,fun h=>absurd hz h.1,fun _=>hk⟩⟩
theorem copyW_s {P:Program} {dT e:TypeId} {size i o dl c1 j off m c2 mn:Nat} {cs cs2 news:List Value} {k k2:CK} {H:AHeap} {K:Value→AHeap→Prop} (hu:P.underlying dT=some (.slice e)) (hs:tS P e=some size) (hd:H[i]? =some (.cells cs k)) (hx:H[j]? =some (.cells cs2 k2))
  (hmn:min m dl=mn) (hnews:(cs2.drop off).take (mn*size)=news) (hfl:news.all flat=true) (h1:off+mn*size≤cs2.length) (h2:o+mn*size≤cs.length) (how:ownW k o) (hk:K (.int .i64 (mn:Nat)) (H.set i (.cells (putCells cs o news) k))):
  copyW P dT (.slice (some ⟨i,o,none⟩) dl c1) (.slice (some ⟨j,off,none⟩) m c2) H K:=by
 subst hmn hnews
 unfold copyW
 rw [hu]
 simp only [hs,wth_some,hd,hx]
 exact ⟨hfl,h1,h2,how,hk⟩
end Go.Proofs.YthcdjconlfdidaaGreatDoor

set_option linter.unusedVariables false
set_option linter.unusedSimpArgs false
set_option maxRecDepth 20000
set_option maxHeartbeats 4000000
namespace Go.Proofs.YthcdjconlfdidaaGreatDoor
open Go Go.Aw Go.Proofs
theorem flat_ins {m:Nat} (css:List (List Value)) (i:Nat) (r:List Value) (h:∀c∈css,c.length=m):(insAt css i r).flatten=css.flatten.take (i*m)++(r++css.flatten.drop (i*m)):=by
 unfold insAt
 rw [List.flatten_append,List.flatten_cons]
 have key:∀(css:List (List Value)) (i:Nat),(∀ c∈css,c.length=m)→(css.take i).flatten=css.flatten.take (i*m)∧(css.drop i).flatten=css.flatten.drop (i*m):=fun css=>by
  induction css with
  |nil=>intro i _;simp
  | cons c css ih=>
   intro i h
   cases i with
   |zero=>simp
   |succ i=>
    have hc:=h c (by simp)
    obtain ⟨h1,h2⟩:=ih i (fun x hx=>h x (by simp [hx]))
    rw [List.take_succ_cons,List.drop_succ_cons,List.flatten_cons,List.flatten_cons,h1,h2,Nat.add_mul,Nat.one_mul]
    have e:i*m+m=c.length+i*m:=by omega
    refine ⟨?_,?_⟩
    ·rw [e,List.take_length_add_append]
    ·rw [e,List.drop_length_add_append]
 rw [(key css i h).1,(key css i h).2]
end Go.Proofs.YthcdjconlfdidaaGreatDoor
