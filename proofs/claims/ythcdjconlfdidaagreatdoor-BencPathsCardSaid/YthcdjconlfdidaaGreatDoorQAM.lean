/-
  A part of the proof of a statement of this seat.
-/
import Derived.Test.YthcdjconlfdidaaGreatDoorDXM
import Derived.Test.YthcdjconlfdidaaGreatDoorAwC
set_option linter.unusedVariables false
set_option linter.unusedSimpArgs false
set_option maxRecDepth 20000
namespace Go.Proofs.YthcdjconlfdidaaGreatDoor
open Go Go.Aw Go.Proofs
def KeyS (ex:Bool) (H:AHeap) (keys:List Tx) (v:Value) (S:List Nat):Prop:=
 (keys=[]∧v= .slice none 0 0∧S=[])∨∃b z,v= .slice (some ⟨b,0,none⟩) keys.length keys.length∧H[b]? =some (.cells (strsC keys) ⟨9,z,!ex,0,none⟩)∧(z=1∨z=0)∧(ex=true→z=0)∧S=(if ex then [] else [b])
mutual
def OwnV (ex:Bool) (H:AHeap):BV→List Value→List Nat→Prop
 | .mk k n s kids keys,cs,S=>∃vs a css b Sk,cs= [.int .i64 k,.int .i64 n,.string (bs s),.slice (some ⟨a,0,none⟩) kids.length kids.length,vs]∧H[a]? =some (.cells css.flatten ⟨27,0,true,0,none⟩)∧KeyS ex H keys vs b∧OwnL ex H kids css Sk∧S=a::(b++Sk)
def OwnL (ex:Bool) (H:AHeap):List BV→List (List Value)→List Nat→Prop
 |[],css,S=>css=[]∧S=[]
 |v::l,css,S=>∃cs r S1 S2,css=cs::r∧OwnV ex H v cs S1∧OwnL ex H l r S2∧S=S1++S2
end
theorem KeyS.same {ex:Bool} {H H2:AHeap} {keys:List Tx} {v:Value} {S:List Nat} (h:KeyS ex H keys v S) (hs:∀s∈S,H2[s]? =H[s]?) (hk:Kept H H2):KeyS ex H2 keys v S:=by
 rcases h with h|⟨b,z,e,hb,hz,hx,hS⟩
 ·exact .inl h
 ·refine .inr ⟨b,z,e,?_,hz,hx,hS⟩
  cases ex with
  |true=>exact hk _ _ _ hb rfl
  |false=>rw [hs b (by rw [hS];simp)];exact hb
mutual
theorem OwnV.same {ex:Bool} {H H2:AHeap} (hk:Kept H H2):∀{v:BV} {cs:List Value} {S:List Nat},OwnV ex H v cs S→ (∀ s∈S,H2[s]? =H[s]?)→OwnV ex H2 v cs S
 | .mk k n s kids keys,cs,S,h,hs=>by
  unfold OwnV at h ⊢
  obtain ⟨vs,a,css,b,Sk,e,h1,h2,h3,rfl⟩:=h
  exact ⟨vs,a,css,b,Sk,e,by rw [hs a (by simp)];exact h1,h2.same (fun s h=>hs s (by simp [h])) hk,OwnL.same hk h3 (fun s h=>hs s (by simp [h])),rfl⟩
theorem OwnL.same {ex:Bool} {H H2:AHeap} (hk:Kept H H2):∀{l:List BV} {css:List (List Value)} {S:List Nat},OwnL ex H l css S→ (∀ s∈S,H2[s]? =H[s]?)→OwnL ex H2 l css S
 |[],css,S,h,hs=>by unfold OwnL at h ⊢;exact h
 |v::l,css,S,h,hs=>by
  unfold OwnL at h ⊢
  obtain ⟨cs,r,S1,S2,e,h1,h2,rfl⟩:=h
  exact ⟨cs,r,S1,S2,e,OwnV.same hk h1 (fun s h=>hs s (by simp [h])),OwnL.same hk h2 (fun s h=>hs s (by simp [h])),rfl⟩
end
theorem OwnL.len {ex:Bool} {H:AHeap}:∀{l:List BV} {css:List (List Value)} {S:List Nat},OwnL ex H l css S→css.length=l.length
 |[],css,S,h=>by unfold OwnL at h;rw [h.1];rfl
 |v::l,css,S,h=>by
  unfold OwnL at h
  obtain ⟨cs,r,S1,S2,e,h1,h2,_⟩:=h
  rw [e,List.length_cons,List.length_cons,h2.len]
theorem OwnV.len {ex:Bool} {H:AHeap} {v:BV} {cs:List Value} {S:List Nat} (h:OwnV ex H v cs S):cs.length=5:=by
 cases v
 unfold OwnV at h
 obtain ⟨vs,a,css,b,Sk,e,_⟩:=h
 rw [e];rfl
theorem KeyS.flat {ex:Bool} {H:AHeap} {keys:List Tx} {v:Value} {S:List Nat} (h:KeyS ex H keys v S):Go.Aw.flat v=true:=by
 rcases h with ⟨_,rfl,_⟩|⟨_,_,rfl,_⟩<;> rfl
theorem OwnV.flat {ex:Bool} {H:AHeap} {v:BV} {cs:List Value} {S:List Nat} (h:OwnV ex H v cs S):cs.all Go.Aw.flat=true:=by
 cases v
 unfold OwnV at h
 obtain ⟨vs,a,css,b,Sk,rfl,_,h2,_⟩:=h
 have:=h2.flat
 simp only [List.all_cons,List.all_nil,this,Bool.and_true]
 rfl
theorem OwnL.all5 {ex:Bool} {H:AHeap}:∀{l:List BV} {css:List (List Value)} {S:List Nat},OwnL ex H l css S→∀cs∈css,cs.length=5
 |[],css,S,h=>by unfold OwnL at h;rw [h.1];simp
 |v::l,css,S,h=>by
  unfold OwnL at h
  obtain ⟨cs,r,S1,S2,e,h1,h2,_⟩:=h
  rw [e]
  intro c hc
  rcases List.mem_cons.1 hc with rfl|hc
  ·exact h1.len
  ·exact h2.all5 c hc
theorem OwnL.snoc {ex:Bool} {H:AHeap}:∀{l:List BV} {css:List (List Value)} {S:List Nat} {v:BV} {cs:List Value} {S2:List Nat},OwnL ex H l css S→OwnV ex H v cs S2→OwnL ex H (l++[v]) (css++[cs]) (S++S2)
 |[],css,S,v,cs,S2,h,hv=>by
  unfold OwnL at h
  rw [h.1,h.2]
  exact (show OwnL ex H (v::[]) (cs::[]) S2 by unfold OwnL;exact ⟨cs,[],S2,[],rfl,hv,by unfold OwnL;exact ⟨rfl,rfl⟩,by simp⟩)
 |u::l,css,S,v,cs,S2,h,hv=>by
  unfold OwnL at h
  obtain ⟨c,r,S1,S3,e,h1,h2,rfl⟩:=h
  rw [e]
  exact (show OwnL ex H (u::(l++[v])) (c::(r++[cs])) (S1++S3++S2) by unfold OwnL;exact ⟨c,r++[cs],S1,S3++S2,rfl,h1,h2.snoc hv,by simp⟩)
theorem OwnL.split {ex:Bool} {H:AHeap}:∀{l:List BV} {css:List (List Value)} {S:List Nat} {i:Nat} {v:BV},OwnL ex H l css S→l[i]? =some v→∃cs A S1 C,css[i]? =some cs∧OwnV ex H v cs S1∧S=A++(S1++C)∧
  (∀ (j:Nat) (u:BV),l[j]? =some u→j≠i→∃cj Sj,css[j]? =some cj∧OwnV ex H u cj Sj∧∀s∈Sj,s∈A∨s∈C)
 |[],css,S,i,v,h,e=>by simp at e
 | u ::l,css,S,0,v,h,e=>by
  unfold OwnL at h
  obtain ⟨c,r,S1,S2,rfl,h1,h2,rfl⟩:=h
  cases e
  refine ⟨c,[],S1,S2,rfl,h1,by simp,fun j w hj hne=> ?_⟩
  cases j with
  |zero=>exact absurd rfl hne
  | succ j=>
   have key:∀{l:List BV} {r:List (List Value)} {S2:List Nat} {j:Nat} {w:BV},OwnL ex H l r S2→l[j]? =some w→∃cj Sj,r[j]? =some cj∧OwnV ex H w cj Sj∧∀s∈Sj,s∈S2:=fun {l}=>by
    induction l with
    |nil=>intro r S2 j w h e;simp at e
    | cons x l ih=>
     intro r S2 j w h e
     unfold OwnL at h
     obtain ⟨c,r,T1,T2,rfl,g1,g2,rfl⟩:=h
     cases j with
     |zero=>cases e;exact ⟨c,T1,rfl,g1,fun s hs=>by simp [hs]⟩
     |succ j=>
      obtain ⟨cj,Sj,k1,k2,k3⟩:=ih g2 (by simpa using e)
      exact ⟨cj,Sj,by simpa using k1,k2,fun s hs=>by simp [k3 s hs]⟩
   obtain ⟨cj,Sj,k1,k2,k3⟩:=key h2 (by simpa using hj)
   exact ⟨cj,Sj,by simpa using k1,k2,fun s hs=> .inr (k3 s hs)⟩
 | u::l,css,S,i+1,v,h,e=>by
  unfold OwnL at h
  obtain ⟨c,r,S1,S2,rfl,h1,h2,rfl⟩:=h
  obtain ⟨cs,A,T,C,k1,k2,rfl,k4⟩:=h2.split (i:=i) (v:=v) (by simpa using e)
  refine ⟨cs,S1++A,T,C,by simpa using k1,k2,by simp,fun j w hj hne=> ?_⟩
  cases j with
  |zero=>cases hj;exact ⟨c,S1,rfl,h1,fun s hs=> .inl (by simp [hs])⟩
  |succ j=>
   obtain ⟨cj,Sj,m1,m2,m3⟩:=k4 j w (by simpa using hj) (fun h=>hne (by omega))
   refine ⟨cj,Sj,by simpa using m1,m2,fun s hs=> ?_⟩
   rcases m3 s hs with h|h
   ·exact .inl (by simp [h])
   ·exact .inr h
theorem strs_flat (keys:List Tx):(keyC keys).flatten=strsC keys:=by
 unfold keyC strsC
 induction keys with
 |nil=>rfl
 |cons k keys ih=>rw [List.map_cons,List.flatten_cons,ih];rfl
theorem KeyS.rd {ex:Bool} {H:AHeap} {keys:List Tx} {v:Value} {S T:List Nat} (h:KeyS ex H keys v S) (hT:∀s∈S,s∈T):RdK (fz H T) 1 v (keyC keys):=by
 rcases h with ⟨rfl,rfl,_⟩|⟨b,z,rfl,hb,hz,hx,hS⟩
 ·exact .inl ⟨rfl,rfl⟩
 ·obtain ⟨k2,g1,g2,g3,g4,g5⟩:=fz_cells (S:=T) hb
  have hkl:=keyC_len keys
  have ho:k2.own=false:=by
   cases ex with
   |true=>exact g5 rfl
   |false=>exact g4 (hT b (by rw [hS];simp))
  refine .inr ⟨b,0,keys.length,_,k2,by rw [hkl],by rw [hkl];exact Nat.le_refl _,g1,ho,by rw [g3];exact hz,by rw [hkl,strsC_len];omega,fun j r hj=> ?_⟩
  have h1:∀r∈keyC keys,r.length=1:=fun r hr=>by
   unfold keyC at hr
   obtain ⟨x,_,rfl⟩:=List.mem_map.1 hr
   rfl
  rw [Nat.zero_add,←strs_flat]
  exact flat_at h1 hj
mutual
theorem OwnV.rd {ex:Bool} {H:AHeap} {T:List Nat}:∀{v:BV} {cs:List Value} {S:List Nat},OwnV ex H v cs S→ (∀ s∈S,s∈T)→RdV (fz H T) v cs
 | .mk k n s kids keys,cs,S,h,hT=>by
  unfold OwnV at h
  unfold RdV
  obtain ⟨vs,a,css,b,Sk,rfl,h1,h2,h3,rfl⟩:=h
  have h5:=h3.all5
  have hl:=h3.len
  obtain ⟨k2,g1,g2,g3,g4,g5⟩:=fz_cells (S:=T) h1
  refine ⟨_,vs,css,rfl,.inr ⟨a,0,kids.length,_,k2,by rw [hl],by rw [hl];exact Nat.le_refl _,g1,g4 (hT a (by simp)),.inr g3,by rw [flat_len h5];omega,fun j r hj=> ?_⟩,OwnL.rd h3 (fun s hs=>hT s (by simp [hs])),h2.rd (fun s hs=>hT s (by simp [hs]))⟩
  rw [Nat.zero_add]
  exact flat_at h5 hj
theorem OwnL.rd {ex:Bool} {H:AHeap} {T:List Nat}:∀{l:List BV} {css:List (List Value)} {S:List Nat},OwnL ex H l css S→ (∀ s∈S,s∈T)→RdL (fz H T) l css
 |[],css,S,h,hT=>by unfold OwnL at h;unfold RdL;exact h.1
 |v::l,css,S,h,hT=>by
  unfold OwnL at h
  unfold RdL
  obtain ⟨cs,r,S1,S2,e,h1,h2,rfl⟩:=h
  exact ⟨cs,r,e,OwnV.rd h1 (fun s hs=>hT s (by simp [hs])),OwnL.rd h2 (fun s hs=>hT s (by simp [hs]))⟩
end
end Go.Proofs.YthcdjconlfdidaaGreatDoor

set_option linter.unusedVariables false
set_option linter.unusedSimpArgs false
set_option maxRecDepth 20000
set_option maxHeartbeats 4000000
namespace Go.Proofs.YthcdjconlfdidaaGreatDoor
open Go Go.Aw Go.Proofs
theorem ClipX (l:List Tx) (b z:Nat) (H:AHeap) (hb:H[b]? =some (.cells (strsC l) ⟨9,z,true,0,none⟩)):
  ARet Tryz.prog 58 [.slice (some ⟨b,0,none⟩) l.length l.length] H (.slice (some ⟨H.length,0,none⟩) l.length l.length) (fz H [b]++ [.cells (strsC l) ⟨9,0,false,0,none⟩]):=by
 have hcl:=strsC_len l
 have htk:List.take l.length (strsC l)=strsC l:=List.take_of_length_le (by omega)
 refine AC.enter Tryz.func58 rfl (by kernel_rfl) 9 rfl [.tmp 2] rfl (by simp) fun hsc B=> ?_
 repeat first|with_reducible refine AWP.regionO (id:=1) 5 rfl ?_|with_reducible refine kc ?_|((with_reducible first|refine kr ?_ ?_|refine kt ?_ ?_);exact rfl)|((with_reducible refine kf ?_ ?_);exact rfl)|simp only [go_sem,sevalprocAttr,reduceCtorEq]|simp (disch:=omega) only [wz]|with_reducible_and_instances exact finR|((with_reducible refine finR' ?_ ?_)<;> rfl)|((with_reducible refine finD hsc (NRel.of_plain ?_));exact rfl)
 refine LOk.step (by rfl) (by rfl) ?_
 refine OpOk.clip (e:=9) (s:=1) (i:=b) (off:=0) (n:=l.length) (cap:=l.length) ?_ rfl ?_ ?_ ?_ (Nat.le_refl _) Tryz.underlying22 ?_ hb ?_ ?_
 ·intro d e
  cases e
  exact (by decide:8<9)
 ·simp only [go_sem,sevalprocAttr,reduceCtorEq]
 ·simp only [go_sem,sevalprocAttr,reduceCtorEq]
 ·simp only [go_sem,sevalprocAttr,reduceCtorEq]
 ·simp only [go_sem,sevalprocAttr,reduceCtorEq]
 ·omega
 repeat first|with_reducible refine kc ?_|((with_reducible first|refine kr ?_ ?_|refine kt ?_ ?_);exact rfl)|((with_reducible refine kf ?_ ?_);exact rfl)|simp only [go_sem,sevalprocAttr,reduceCtorEq,htk]|simp (disch:=omega) only [wz]|with_reducible_and_instances exact finR|((with_reducible refine finR' ?_ ?_)<;> rfl)|((with_reducible refine finD hsc (NRel.of_plain ?_));exact rfl)
def ClipP (ex:Bool) (l:List Tx) (lo:Nat) (H:AHeap) (r:ARes) (H2:AHeap):Prop:=
 ∃v' S,r= .ret v'∧KeyS ex H2 l v' S∧S.Nodup∧ (∀ s∈S,lo≤s∧s<H2.length)∧ (∀ i,i<lo→H2[i]? =H[i]?)∧H.length≤H2.length
theorem ClipS (ex:Bool) (l:List Tx) (v:Value) (lo:Nat) (H:AHeap) (h:OwnT H l v lo) (hlo:lo≤H.length):AC Tryz.prog 58 [v] H (ClipP ex l lo H):=by
 rcases h with ⟨rfl,rfl⟩|⟨b,z,rfl,hb,hz,hbl⟩
 ·refine (Clip0 H).mono ?_
  rintro r H2 ⟨rfl,rfl⟩
  exact ⟨_,[],rfl,.inl ⟨rfl,rfl,rfl⟩,List.nodup_nil,fun s hs=>by simp at hs,fun _ _=>rfl,Nat.le_refl _⟩
 ·cases ex with
  |false=>
   refine (ClipN b _ H).mono ?_
   rintro r H2 ⟨rfl,rfl⟩
   exact ⟨_,[b],rfl,.inr ⟨b,z,rfl,hb,hz,(fun h=>by cases h),rfl⟩,by simp,fun s hs=>by simp at hs;subst hs;exact ⟨hbl,lt_of_get hb⟩,fun _ _=>rfl,Nat.le_refl _⟩
  |true=>
   refine (ClipX l b z H hb).mono ?_
   rintro r H2 ⟨rfl,rfl⟩
   have hfl:=fz_length [b] H
   refine ⟨_,[],rfl,.inr ⟨H.length,0,rfl,by rw [hget0 hfl];rfl,.inr rfl,fun _=>rfl,rfl⟩,List.nodup_nil,fun s hs=>by simp at hs,fun i hi=> ?_,by rw [List.length_append,hfl];omega⟩
   rw [hgetl (by rw [hfl];omega),fz_get,if_neg]
   simp only [List.mem_singleton]
   omega
end Go.Proofs.YthcdjconlfdidaaGreatDoor

set_option linter.unusedVariables false
set_option linter.unusedSimpArgs false
set_option maxRecDepth 20000
set_option maxHeartbeats 4000000
namespace Go.Proofs.YthcdjconlfdidaaGreatDoor
open Go Go.Aw Go.Proofs
def insAt {α :Type} (l:List α) (i:Nat) (x:α):List α:=l.take i++x::l.drop i
theorem strs_ins (l:List Tx) (i:Nat) (t:Tx):strsC (insAt l i t)=(strsC l).take i++(Value.string (bs t)::(strsC l).drop i):=by
 unfold insAt strsC
 simp [List.map_take,List.map_drop]
theorem ins_cells {L Z new rest:List Value} {p q m:Nat} (hp:L.length=p) (hm:new.length=m) (hr:Z.length=m+rest.length) (hq:q=p+m):putCells (putCells (L++Z) p new) q rest=L++(new++rest):=by
 subst hp hm hq
 rw [put_row rfl (by omega),put_row (by rw [List.length_append]) (by rw [List.length_drop];omega)]
 rw [List.drop_drop,List.drop_eq_nil_of_le (by omega)]
 simp
theorem appendTo_nn {P:Program} {e:TypeId} {size y n:Nat} {news:List Value} {H:AHeap} {K:Value→AHeap→Prop} (hn:n≠0) (h1:n*y≤140737488355328) (h2:n≤4611686018427387904)
  (hk:K (.slice (some ⟨H.length,0,none⟩) n n) (H++ [.cells news ⟨e,size,true,0,none⟩])):appendTo P e size y (.slice none 0 0) n news H K:=
 ⟨⟨rfl,rfl⟩,fun h=>absurd h hn,fun _=>⟨⟨h1,h2⟩,hk⟩⟩
theorem appendTo_x {P:Program} {e:TypeId} {size y i off len cap n:Nat} {news cs:List Value} {k:CK} {H:AHeap} {K:Value→AHeap→Prop} (hi:H[i]? =some (.cells cs k)) (hz:k.esz=0) (hc:cap<len+n) (hle:off+len*size≤cs.length) (h1:(len+n)*y≤140737488355328) (h2:len+n≤4611686018427387904)
  (hk:K (.slice (some ⟨H.length,0,none⟩) (len+n) (len+n)) (H++ [.cells ((cs.drop off).take (len*size)++news) ⟨e,size,true,0,none⟩])):appendTo P e size y (.slice (some ⟨i,off,none⟩) len cap) n news H K:=by
 unfold appendTo
 simp only [hi]
 exact ⟨fun h=>by omega,fun _=>⟨⟨hle,h1,h2⟩,fun h=>absurd hz h.1,fun _=>hk⟩⟩
theorem copyW_s {P:Program} {dT e:TypeId} {size i o dl c1 j off m c2 mn:Nat} {cs cs2 news:List Value} {k k2:CK} {H:AHeap} {K:Value→AHeap→Prop} (hu:P.underlying dT=some (.slice e)) (hs:tS P e=some size) (hd:H[i]? =some (.cells cs k)) (hx:H[j]? =some (.cells cs2 k2))
  (hmn:min m dl=mn) (hnews:(cs2.drop off).take (mn*size)=news) (hfl:news.all flat=true) (h1:off+mn*size≤cs2.length) (h2:o+mn*size≤cs.length) (how:ownW k o) (hk:K (.int .i64 (mn:Nat)) (H.set i (.cells (putCells cs o news) k))):
  copyW P dT (.slice (some ⟨i,o,none⟩) dl c1) (.slice (some ⟨j,off,none⟩) m c2) H K:=by
 subst hmn hnews
 unfold copyW
 rw [hu]
 simp only [hs,wth_some,hd,hx]
 exact ⟨hfl,h1,h2,how,hk⟩
theorem strsC_flat_drop (l:List Tx) (i:Nat):((strsC l).drop i).all flat=true:=by
 refine List.all_eq_true.2 fun x hx=> ?_
 exact List.all_eq_true.1 (strsC_flat l) x (List.mem_of_mem_drop hx)
theorem InsertT (l:List Tx) (i:Nat) (t:Tx) (hi:i≤l.length) (hl:l.length≤1099511627776) (H:AHeap) (v:Value) (hv:KeyS true H l v []) (b2:Nat) (k2:CK) (hb2:H[b2]? =some (.cells [.string (bs t)] k2)):
  AC Tryz.prog 31 [v,.int .i64 (i:Nat),.slice (some ⟨b2,0,none⟩) 1 1] H (fun r H2=>∃v',r= .ret v'∧OwnT H2 (insAt l i t) v' H.length∧Frm [] H H2):=by
 have hins:=strs_ins l i t
 have hlen:(insAt l i t).length=l.length+1:=by unfold insAt;simp;omega
 rcases hv with ⟨rfl,rfl,_⟩|⟨b,z,rfl,hb,hz,hx,_⟩
 ·obtain rfl:i=0:=by simpa using hi
  refine AC.enter Tryz.func31 rfl (by kernel_rfl) 95 rfl [.tmp 6] rfl (by simp) fun hsc B=> ?_
  repeat first|with_reducible refine kc ?_|((with_reducible first|refine kr ?_ ?_|refine kt ?_ ?_);exact rfl)|((with_reducible refine kf ?_ ?_);exact rfl)|simp only [go_sem,sevalprocAttr,reduceCtorEq,hb2,Option.isSome_some,Option.isSome_none]|simp (disch:=omega) only [wz]
  refine appendTo_nn (by decide) (by decide) (by decide) ?_
  repeat first|with_reducible refine kc ?_|((with_reducible first|refine kr ?_ ?_|refine kt ?_ ?_);exact rfl)|((with_reducible refine kf ?_ ?_);exact rfl)|simp only [go_sem,sevalprocAttr,reduceCtorEq]|simp (disch:=omega) only [wz]
  exact ⟨_,_,.refl _ _ _,_,rfl,.inr ⟨H.length,1,rfl,by rw [hget0 rfl];rfl,.inl rfl,Nat.le_refl _⟩,Frm.app⟩
 ·have hz0:=hx rfl
  subst hz0
  have hcl:=strsC_len l
  have hfl:=strsC_flat l
  have hwn:IntKind.i64.wrap ((l.length:Int)+1)=((l.length+1:Nat):Int):=by rw [wi64 (by omega)];omega
  by_cases hin:i=l.length
  ·subst hin
   have htk:List.take l.length (strsC l)=strsC l:=List.take_of_length_le (by omega)
   refine AC.enter Tryz.func31 rfl (by kernel_rfl) 95 rfl [.tmp 6] rfl (by simp) fun hsc B=> ?_
   repeat first|with_reducible refine kc ?_|((with_reducible first|refine kr ?_ ?_|refine kt ?_ ?_);exact rfl)|((with_reducible refine kf ?_ ?_);exact rfl)|simp only [go_sem,sevalprocAttr,reduceCtorEq,hb]|simp (disch:=omega) only [wz]
   refine ⟨by omega,by omega,?_⟩
   repeat first|with_reducible refine kc ?_|((with_reducible first|refine kr ?_ ?_|refine kt ?_ ?_);exact rfl)|((with_reducible refine kf ?_ ?_);exact rfl)|simp only [go_sem,sevalprocAttr,reduceCtorEq,hb2,htk,hfl,hcl]|simp (disch:=omega) only [wz]
   refine appendTo_x hb rfl (by omega) (by omega) (by omega) (by omega) ?_
   have htk2:List.take (l.length*1) (List.drop 0 (strsC l))=strsC l:=by rw [List.drop_zero,Nat.mul_one,htk]
   rw [htk2]
   repeat first|with_reducible refine kc ?_|((with_reducible first|refine kr ?_ ?_|refine kt ?_ ?_);exact rfl)|((with_reducible refine kf ?_ ?_);exact rfl)|simp only [go_sem,sevalprocAttr,reduceCtorEq]|simp (disch:=omega) only [wz]
   refine ⟨_,_,.refl _ _ _,_,rfl,.inr ⟨H.length,1,by rw [hlen],?_,.inl rfl,Nat.le_refl _⟩,Frm.app⟩
   rw [hget0 rfl,hins,htk,List.drop_of_length_le (by omega)]
   rfl
  ·have hne:((i:Int)==(l.length:Int))=false:=beq_eq_false_iff_ne.2 (by omega)
   refine AC.enter Tryz.func31 rfl (by kernel_rfl) 95 rfl [.tmp 6] rfl (by simp) fun hsc B=> ?_
   repeat first|with_reducible refine kc ?_|((with_reducible first|refine kr ?_ ?_|refine kt ?_ ?_);exact rfl)|((with_reducible refine kf ?_ ?_);exact rfl)|simp only [go_sem,sevalprocAttr,reduceCtorEq,hb]|simp (disch:=omega) only [wz]
   refine ⟨by omega,by omega,?_⟩
   repeat first|with_reducible refine AWP.regionO (id:=8) 4 rfl ?_|with_reducible refine kc ?_|((with_reducible first|refine kr ?_ ?_|refine kt ?_ ?_);exact rfl)|((with_reducible refine kf ?_ ?_);exact rfl)|simp only [go_sem,sevalprocAttr,reduceCtorEq,hne,hb]|simp (disch:=omega) only [wz]
   refine LOk.step (by rfl) (by rfl) ?_
   refine OpOk.cap (e:=9) ?_ rfl (i:=b) (off:=0) (n:=l.length) (cap:=l.length) ?_ Tryz.underlying22 hb rfl ?_
   ·intro d e
    cases e
    exact (by decide:30<95)
   ·simp only [go_sem,sevalprocAttr,reduceCtorEq]
   have hgt:(l.length:Int)+1>(l.length:Int):=by omega
   have hsub:((l.length+1:Nat):Int) - (i:Int)=((l.length+1 - i:Nat):Int):=by omega
   repeat first|with_reducible refine AWP.regionO (id:=9) 8 rfl ?_|with_reducible refine kc ?_|((with_reducible first|refine kr ?_ ?_|refine kt ?_ ?_);exact rfl)|((with_reducible refine kf ?_ ?_);exact rfl)|simp only [go_sem,sevalprocAttr,reduceCtorEq,hwn,hgt,hsub]|simp (disch:=omega) only [wz]
   refine ⟨by omega,by rw [hb];exact .inr rfl,?_⟩
   refine LOk.step (by rfl) (by rfl) ?_
   refine OpOk.appendMake (e:=9) (kk:= .i64) (k2:= .i64) (off:=0) (len:=i) (cap:=l.length) (n:=l.length+1 - i) (size:=1) (y:=16) (z:= [.string (bs [])]) ?_ rfl ?_ ?_ Tryz.underlying22 Tryz.underlying3 ?_ ?_ ?_ rfl hb rfl (by omega) (by omega) (repZ_scalar rfl) (by decide) (by omega) (by omega) (by omega) ?_
   ·intro d e
    cases e
    exact (by decide:40<95)
   ·simp only [go_sem,sevalprocAttr,reduceCtorEq]
   ·simp only [go_sem,sevalprocAttr,reduceCtorEq]
   ·simp only [go_sem,sevalprocAttr,reduceCtorEq]
   ·simp only [go_sem,sevalprocAttr,reduceCtorEq]
   ·simp only [go_sem,sevalprocAttr,reduceCtorEq]
   rw [show i+(l.length+1 - i)=l.length+1 by omega,Nat.mul_one,List.drop_zero]
   obtain ⟨L,hL⟩:∃L,L=(strsC l).take i:=⟨_,rfl⟩
   have hLl:L.length=i:=by rw [hL,List.length_take];omega
   obtain ⟨Z,hZ⟩:∃Z,Z=repZ (l.length+1 - i) [Value.string (bs [])]:=⟨_,rfl⟩
   have hZl:Z.length=1+(l.length - i):=by rw [hZ,repZ_length];simp;omega
   rw [← hL,←hZ]
   obtain ⟨H1,hH1⟩:∃H1:AHeap,H1=H++ [.cells (L++Z) ⟨9,1,true,0,none⟩]:=⟨_,rfl⟩
   have hB:H1[H.length]? =some (.cells (L++Z) ⟨9,1,true,0,none⟩):=by rw [hH1,hget0 rfl];rfl
   have hb21:H1[b2]? =some (.cells [.string (bs t)] k2):=by rw [hH1,hgetl (lt_of_get hb2)];exact hb2
   have hb1:H1[b]? =some (.cells (strsC l) ⟨9,0,false,0,none⟩):=by rw [hH1,hgetl (lt_of_get hb)];exact hb
   rw [← hH1]
   repeat first|with_reducible refine kc ?_|((with_reducible first|refine kr ?_ ?_|refine kt ?_ ?_);exact rfl)|((with_reducible refine kf ?_ ?_);exact rfl)|simp only [go_sem,sevalprocAttr,reduceCtorEq,hB,hb21]|simp (disch:=omega) only [wz]
   refine ⟨by omega,by omega,?_⟩
   have hLZ:(L++Z).length=l.length+1:=by rw [List.length_append];omega
   refine copyW_s (size:=1) Tryz.underlying22 (by simp only [go_sem,sevalprocAttr,reduceCtorEq]) hB hb21 (mn:=1) (by omega) (news:= [.string (bs t)]) rfl rfl (by simp) (by omega) ⟨rfl,Nat.zero_le _⟩ ?_
   obtain ⟨H2,hH2⟩:∃H2:AHeap,H2=H1.set H.length (.cells (putCells (L++Z) i [.string (bs t)]) ⟨9,1,true,0,none⟩):=⟨_,rfl⟩
   have hpl:(putCells (L++Z) i [Value.string (bs t)]).length=l.length+1:=by
    rw [putCells_eq _ _ _ (by simp;omega)];simp;omega
   have hB2:H2[H.length]? =some (.cells (putCells (L++Z) i [.string (bs t)]) ⟨9,1,true,0,none⟩):=by rw [hH2,List.getElem?_set_self (lt_of_get hB)]
   have hb22:H2[b]? =some (.cells (strsC l) ⟨9,0,false,0,none⟩):=by rw [hH2,List.getElem?_set_ne (by have:=lt_of_get hb;omega)];exact hb1
   have hw2:IntKind.i64.wrap ((i:Int)+1)=((i+1:Nat):Int):=by rw [wi64 (by omega)];omega
   rw [← hH2]
   repeat first|with_reducible refine kc ?_|((with_reducible first|refine kr ?_ ?_|refine kt ?_ ?_);exact rfl)|((with_reducible refine kf ?_ ?_);exact rfl)|simp only [go_sem,sevalprocAttr,reduceCtorEq,hw2]|simp (disch:=omega) only [wz]
   refine AWP.regionK 8 (by kernel_rfl) (by decide) (by kernel_rfl) ?_
   repeat first|with_reducible refine kc ?_|((with_reducible first|refine kr ?_ ?_|refine kt ?_ ?_);exact rfl)|((with_reducible refine kf ?_ ?_);exact rfl)|simp only [go_sem,sevalprocAttr,reduceCtorEq,hB2,hb22,hw2]|simp (disch:=omega) only [wz]
   refine ⟨by omega,by omega,by omega,by omega,?_⟩
   have hrs:((strsC l).drop i).length=l.length - i:=by rw [List.length_drop,hcl]
   refine copyW_s (size:=1) Tryz.underlying22 (by simp only [go_sem,sevalprocAttr,reduceCtorEq]) hB2 hb22 (mn:=l.length - i) (Nat.min_self _) (news:=(strsC l).drop i) (by rw [Nat.mul_one];exact List.take_of_length_le (by omega)) (strsC_flat_drop l i) (by omega) (by omega) ⟨rfl,Nat.zero_le _⟩ ?_
   rw [ins_cells (new:=[Value.string (bs t)]) (m:=1) (q:=i+1) hLl rfl (by rw [hrs];exact hZl) rfl]
   repeat first|with_reducible refine kc ?_|((with_reducible first|refine kr ?_ ?_|refine kt ?_ ?_);exact rfl)|((with_reducible refine kf ?_ ?_);exact rfl)|simp only [go_sem,sevalprocAttr,reduceCtorEq]|simp (disch:=omega) only [wz]
   refine ⟨_,_,.refl _ _ _,_,rfl,.inr ⟨H.length,1,by rw [hlen],?_,.inl rfl,Nat.le_refl _⟩,?_⟩
   ·rw [List.getElem?_set_self (lt_of_get hB2),hins,hL]
   ·rw [hH2,List.set_set,hH1]
    exact Frm.set Frm.app (.inr (Nat.le_refl _))
end Go.Proofs.YthcdjconlfdidaaGreatDoor
