/-
 What is under way,as sizes;messages;what an end sends and takes is sound (plain).
-/
import Derived.Test.YtdgmcckfdgnicaaUk
set_option linter.unusedVariables false
set_option linter.unusedSimpArgs false
set_option maxRecDepth 20000
namespace Go.Proofs.Ytdgmcckfdgnicaa
open Go Go.Aw Go.Proofs
def zs (l:List Pk):List Int:=(l.filter fun p=> !p.lost).map szP
theorem zs_nil:zs []=[]:=rfl
theorem zs_cons (p:Pk) (l:List Pk):zs (p::l)=if p.lost=true then zs l else szP p::zs l:=by
 unfold zs
 rw [List.filter_cons]
 cases p.lost<;> rfl
theorem zs_append (l m:List Pk):zs (l++m)=zs l++zs m:=by simp [zs]
theorem szP_pos (p:Pk):1≤szP p:=by unfold szP;omega
theorem zs_pos {l:List Pk}:∀z∈zs l,0≤z:=fun z hz=>by
 obtain ⟨p,_,rfl⟩:=List.mem_map.1 hz
 have:=szP_pos p;omega
theorem underN_cons (p:Pk) (l:List Pk):underN (p::l)=if p.lost=true then (underN l).map Nat.succ else 0::(underN l).map Nat.succ:=by
 have h0:nl (p::l) 0= !p.lost:=rfl
 have h1:(nl (p::l))∘Nat.succ=nl l:=by
  funext i
  simp [nl]
 unfold underN
 rw [List.length_cons,List.range_succ_eq_map,List.filter_cons,h0,List.filter_map,h1]
 cases p.lost<;> rfl
theorem under_zs:∀l:List Pk,(underN l).map (fun i=>szP (l.getD i default))=zs l
 |[]=>rfl
 | p::l=>by
  have ih:=under_zs l
  have h2:(fun i=>szP ((p::l).getD i default))∘Nat.succ=fun i=>szP (l.getD i default):=by
   funext i
   simp
  rw [underN_cons,zs_cons]
  split
  ·rw [List.map_map,h2,ih]
  ·rw [List.map_cons,List.map_map,h2,ih]
   rfl
theorem flyN_zs (l:List Pk):flyN l=(zs l).length:=by
 rw [← under_zs l,List.length_map];rfl
theorem flyB_zs (l:List Pk):flyB l=(zs l).sum:=by
 rw [← under_zs l]
 unfold flyB szsU
 rw [List.take_of_length_le (Nat.le_refl _)]
theorem sum_sub {a b:List Int} (h:a.Sublist b): (∀ z∈b,0≤z)→a.sum≤b.sum:=by
 induction h with
 |slnil=>intro _;exact Int.le_refl _
 | @cons l1 l2 x h ih=>
  intro hp
  have:=ih fun z hz=>hp z (List.mem_cons_of_mem _ hz)
  have:=hp x (List.mem_cons_self ..)
  rw [List.sum_cons];omega
 | @cons_cons l1 l2 x h ih=>
  intro hp
  have:=ih fun z hz=>hp z (List.mem_cons_of_mem _ hz)
  rw [List.sum_cons,List.sum_cons];omega
def UOkZ (limit:Int) (l:List Pk):Prop:=(zs l).length≤1∨(zs l).sum≤limit
theorem UOkZ.sub {limit:Int} {l l':List Pk} (h:UOkZ limit l) (hs:(zs l').Sublist (zs l)):UOkZ limit l':=by
 rcases h with h|h
 ·exact .inl (Nat.le_trans hs.length_le h)
 ·exact .inr (Int.le_trans (sum_sub hs zs_pos) h)
theorem zs_set:∀{fl:List Pk} {i:Nat} {p p':Pk},fl[i]? =some p→p.lost=true→p'.lost=false→(zs (fl.set i p')).length=(zs fl).length+1∧(zs (fl.set i p')).sum=(zs fl).sum+szP p'
 |[],i,p,p',h,_,_=>by simp at h
 |x::l,0,p,p',h,h1,h2=>by
  have:x=p:=by simpa using h
  subst this
  rw [List.set_cons_zero,zs_cons,zs_cons,if_pos h1,if_neg (by rw [h2];simp),List.length_cons,List.sum_cons]
  omega
 |x::l,i+1,p,p',h,h1,h2=>by
  have ih:=zs_set (fl:=l) (i:=i) (p:=p) (p':=p') (by simpa using h) h1 h2
  rw [List.set_cons_succ,zs_cons,zs_cons]
  split
  ·exact ih
  ·simp only [List.length_cons,List.sum_cons];omega
theorem zs_snoc (l:List Pk) (p:Pk) (h:p.lost=false):(zs (l++[p])).length=(zs l).length+1∧(zs (l++[p])).sum=(zs l).sum+szP p:=by
 rw [zs_append,zs_cons,if_neg (by rw [h];simp),zs_nil]
 simp
theorem fits_ok {s:E} {p:Pk} (h:fitsR s p=true):(zs s.flight).length=0∨(zs s.flight).sum+szP p≤s.limit:=by
 unfold fitsR at h
 rw [flyN_zs,flyB_zs] at h
 simp only [Bool.or_eq_true,decide_eq_true_eq] at h
 omega
theorem bump_body (p:Pk):(bumpP p).body=p.body∧(bumpP p).kind=p.kind∧(bumpP p).number=p.number∧(p.lost=true→(bumpP p).lost=true):=by
 unfold bumpP
 split
 ·exact ⟨rfl,rfl,rfl,fun _=>rfl⟩
 ·exact ⟨rfl,rfl,rfl,fun h=>h⟩
theorem zs_bump:∀l:List Pk,(zs (l.map bumpP)).Sublist (zs l)
 |[]=> .slnil
 | p::l=>by
  have ih:=zs_bump l
  obtain ⟨h1,_,_,h4⟩:=bump_body p
  have h5:szP (bumpP p)=szP p:=by unfold szP;rw [h1]
  rw [List.map_cons,zs_cons,zs_cons,h5]
  cases hl:p.lost with
  |true=>rw [h4 hl];simpa using ih
  |false=>cases (bumpP p).lost with
   |true=>simpa using ih.cons (szP p)
   |false=>simpa using ih.cons_cons (szP p)
theorem zs_sub {l l':List Pk} (h:l'.Sublist l):(zs l').Sublist (zs l):=(h.filter _).map _
theorem zs_lost (l:List Pk):zs (allLost l)=[]:=by
 unfold zs allLost
 rw [List.filter_eq_nil_iff.2]
 ·rfl
 ·intro p hp
  obtain ⟨x,_,rfl⟩:=List.mem_map.1 hp
  simp
abbrev Msg:=Int×List UInt8
def msg (p:Pk):Msg:=(p.kind,p.body)
def bodies (T:List Msg):List UInt8:=(T.map (·.2)).flatten
theorem bodies_append (a b:List Msg):bodies (a++b)=bodies a++bodies b:=by simp [bodies]
theorem bodies_cons (m:Msg) (b:List Msg):bodies (m::b)=m.2++bodies b:=by simp [bodies]
structure TOk (T:List Msg) (op closing:Bool):Prop where
 kinds:∀m∈T,(m.1=1∨m.1=2∨m.1=4)∧(m.1=2↔m.2≠[])∧m.2.length≤1400
 first:∀(i:Nat) (m:Msg),T[i]? =some m→(m.1=1↔(i=0∧op=true))
 last:∀(i:Nat) (m:Msg),T[i]? =some m→m.1=4→i+1=T.length∧closing=true
theorem len_bodies:∀{T:List Msg},(∀ m∈T,m.2≠[])→T.length≤(bodies T).length
 |[],_=>Nat.zero_le _
 |m::T,h=>by
  have:=len_bodies (T:=T) fun m hm=>h m (List.mem_cons_of_mem _ hm)
  have h1:=List.length_pos_iff.2 (h m (List.mem_cons_self ..))
  rw [bodies_cons,List.length_append,List.length_cons]
  omega
theorem bodies_sub {a b:List Msg} (h:a.Sublist b):(bodies a).length≤(bodies b).length:=by
 induction h with
 |slnil=>exact Nat.le_refl _
 | @cons l1 l2 x h ih=>rw [bodies_cons,List.length_append];omega
 | @cons_cons l1 l2 x h ih=>rw [bodies_cons,bodies_cons,List.length_append,List.length_append];omega
theorem TOk.len {T:List Msg} {op cl:Bool} (h:TOk T op cl):T.length≤(bodies T).length+2:=by
 have h1:((T.drop 1).dropLast).Sublist T:=(List.dropLast_sublist _).trans (List.drop_sublist _ _)
 have h2:∀m∈(T.drop 1).dropLast,m.2≠[]:=by
  intro m hm
  obtain ⟨i,hi⟩:=List.getElem?_of_mem hm
  have hl:=(List.getElem?_eq_some_iff.1 hi).1
  rw [List.length_dropLast,List.length_drop] at hl
  rw [List.getElem?_dropLast,List.length_drop,if_pos hl,List.getElem?_drop] at hi
  have hk:=h.kinds m (List.mem_of_getElem? hi)
  have hf:=h.first _ _ hi
  have hla:=h.last _ _ hi
  refine hk.2.1.1 ?_
  rcases hk.1 with g|g|g
  ·have:=(hf.1 g).1;omega
  ·exact g
  ·have:=(hla g).1;omega
 have h3:=len_bodies h2
 have h4:=bodies_sub h1
 rw [List.length_dropLast,List.length_drop] at h3
 omega
structure Snd (e:E) (f:Int) (L:List Msg) (w:List UInt8):Prop where
 next:e.next=f+L.length
 acked:f - 1≤e.acked∧e.acked<e.next
 fl:∀p∈e.flight,∃i:Nat,L[i]? =some (msg p)∧p.number=f+i
 fll:e.flight.length≤L.length
 tok:TOk (L++e.waiting.map msg) e.opener e.closing
 text:bodies (L++e.waiting.map msg)=w
 under:UOkZ e.limit e.flight
theorem Snd.of {e e':E} {f:Int} {L:List Msg} {w:List UInt8} (h:Snd e f L w) (h1:e'.next=e.next) (h2:e'.acked=e.acked) (h3:e'.flight=e.flight) (h4:e'.waiting=e.waiting) (h5:e'.opener=e.opener) (h6:e'.closing=e.closing) (h7:e'.limit=e.limit):Snd e' f L w where
 next:=h1 ▸ h.next
 acked:=by rw [h1,h2];exact h.acked
 fl:=by rw [h3];exact h.fl
 fll:=by rw [h3];exact h.fll
 tok:=by rw [h4,h5,h6];exact h.tok
 text:=by rw [h4];exact h.text
 under:=by rw [h7,h3];exact h.under
structure SgOk (f:Int) (L:List Msg) (p:Sg):Prop where
 ok:p.ok
 in_:p.kind=1∨p.kind=2∨p.kind=4→∃i:Nat,L[i]? =some (p.kind,p.body)∧p.seq=(f+i)%65536
theorem SgOk.mono {f:Int} {L L':List Msg} {p:Sg} (h:SgOk f L p) (hL:L <+: L'):SgOk f L' p:=⟨h.ok,fun g=>by
 obtain ⟨i,h1,h2⟩:=h.in_ g
 obtain ⟨X,rfl⟩:=hL
 exact ⟨i,by rw [List.getElem?_append_left (List.getElem?_eq_some_iff.1 h1).1];exact h1,h2⟩⟩
structure Got (e:E) (f:Int) (L:List Msg) (rd:List UInt8) (k:Nat):Prop where
 le:k≤L.length
 base:e.base=(f+k - 1)%65536
 text:rd++e.ready=bodies (L.take k)
 ended:e.ended=true→e.kept=[]∧1≤k∧∃m,L[k - 1]? =some m∧m.1=4
 kept:∀x∈e.kept,∃j:Nat,k<j∧j<k+34∧L[j]? =some (x.2.kind,x.2.body)∧x.1=(f+j)%65536∧(x.2.kind=2∨x.2.kind=4)
structure Rcv (e:E) (f:Int) (L:List Msg) (rd:List UInt8):Prop where
 base:0≤e.base∧e.base<65536
 room:(e.ready.length:Int)+(keptB e.kept:Int)≤e.room
 got:(e.kept=[]∧e.ready=[]∧rd=[]∧e.ended=false∧(e.state=0∨e.state=1∨e.state=5))∨∃k,Got e f L rd k∧(e.state≠0∧e.state≠1)
theorem Rcv.of {e e':E} {f:Int} {L:List Msg} {rd:List UInt8} (h:Rcv e f L rd) (h1:e'.base=e.base) (h2:e'.ready=e.ready) (h3:e'.kept=e.kept) (h4:e'.room=e.room) (h5:e'.ended=e.ended) (h6:e'.state=e.state∨e'.state=5∨(e.state≠0∧e.state≠1∧e.state≠5∧e'.state≠0∧e'.state≠1)):Rcv e' f L rd where
 base:=by rw [h1];exact h.base
 room:=by rw [h2,h3,h4];exact h.room
 got:=by
  rcases h.got with ⟨a,b,c,d,g⟩|⟨k,hk,g1,g2⟩
  ·refine .inl ⟨h3.trans a,h2.trans b,c,h5.trans d,?_⟩
   rcases h6 with h6|h6|h6
   ·rw [h6];exact g
   ·exact .inr (.inr h6)
   ·omega
  ·refine .inr ⟨k,⟨hk.le,h1.trans hk.base,by rw [h2];exact hk.text,by rw [h5,h3];exact hk.ended,by rw [h3];exact hk.kept⟩,by omega⟩
theorem Rcv.mono {e:E} {f:Int} {L L':List Msg} {rd:List UInt8} (h:Rcv e f L rd) (hL:L <+: L'):Rcv e f L' rd where
 base:=h.base
 room:=h.room
 got:=by
  rcases h.got with g|⟨k,hk,g⟩
  ·exact .inl g
  ·obtain ⟨X,rfl⟩:=hL
   have hg:∀i m,L[i]? =some m→(L++X)[i]? =some m:=fun i m hi=>by rw [List.getElem?_append_left (List.getElem?_eq_some_iff.1 hi).1];exact hi
   refine .inr ⟨k,⟨by have:=hk.le;rw [List.length_append];omega,hk.base,by rw [List.take_append_of_le_length hk.le];exact hk.text,fun he=> ?_,fun x hx=> ?_⟩,g⟩
   ·obtain ⟨a,b,m,c,d⟩:=hk.ended he
    exact ⟨a,b,m,hg _ _ c,d⟩
   ·obtain ⟨j,a,b,c,d⟩:=hk.kept x hx
    exact ⟨j,a,b,hg _ _ c,d⟩
end Go.Proofs.Ytdgmcckfdgnicaa
