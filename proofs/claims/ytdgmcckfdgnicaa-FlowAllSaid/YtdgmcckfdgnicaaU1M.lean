/-
  A part of the proof of a statement of this seat.
-/
import Derived.Test.YtdgmcckfdgnicaaAwB
import Derived.Test.YtdgmcckfdgnicaaTU
set_option linter.unusedVariables false
set_option linter.unusedSimpArgs false
set_option maxRecDepth 20000
namespace Go.Proofs.Ytdgmcckfdgnicaa
open Go Go.Aw Go.Proofs
theorem tmod_c (y:Int):y.tmod 65536=y%65536∧0≤y∨y.tmod 65536=y%65536∧y%65536=0∨y<0∧y.tmod 65536=y%65536 - 65536:=by
 have h:=Int.tmod_eq_emod (a:=y) (b:=65536)
 split at h
 ·rename_i h0
  rcases h0 with h0|h0
  ·left;exact ⟨by simpa using h,h0⟩
  ·right;left;exact ⟨by simpa using h,Int.emod_eq_zero_of_dvd h0⟩
 ·rename_i h0
  right;right
  refine ⟨by omega,by rw [h];rfl⟩
theorem ahead_eq (x:Int):(IntKind.i64.wrap ((IntKind.i64.wrap x).tmod 65536+65536)).tmod 65536=x%65536:=by
 have h2:IntKind.i64.wrap x%65536=x%65536:=by rw [IntKind.wrap_i64];omega
 have h4:=tmod_c (IntKind.i64.wrap x)
 have h3:IntKind.i64.wrap ((IntKind.i64.wrap x).tmod 65536+65536)=(IntKind.i64.wrap x).tmod 65536+65536:=IntWalk.i64_in _ (by omega)
 rw [h3]
 have h5:=tmod_c ((IntKind.i64.wrap x).tmod 65536+65536)
 omega
theorem round (n:Int) (H:AHeap):ARet Try.prog 47 [.int .i64 n] H (.bool (decide (0≤n∧n<65536))) H:=by
 refine AC.enter Try.func47 rfl (by kernel_rfl) 9 rfl [.tmp 2] rfl (by simp) fun hsc B=> ?_
 by_cases h:0≤n
 ·have h':n≥0:=h
  repeat first|refine kw1 h' ?_|exact kwz
 ·have h':¬n≥0:=h
  repeat first|refine kw1 h' ?_|exact kwz
theorem ahead (a b:Int) (H:AHeap):ARet Try.prog 50 [.int .i64 a,.int .i64 b] H (.int .i64 ((b - a)%65536)) H:=by
 refine AC.enter Try.func50 rfl (by kernel_rfl) 11 rfl [.tmp 4] rfl (by simp) fun hsc B=> ?_
 repeat first|refine kw1 @ahead_eq ?_|exact kwz
theorem before (a b:Int) (H:AHeap):ARet Try.prog 49 [.int .i64 a,.int .i64 b] H (.bool (decide (1≤(b - a)%65536∧(b - a)%65536<32768))) H:=by
 refine AC.enter Try.func49 rfl (by kernel_rfl) 15 rfl [.tmp 4] rfl (by simp) fun hsc B=> ?_
 by_cases h:1≤(b - a)%65536
 ·have h':(b - a)%65536≥1:=h
  repeat first|with_reducible refine (ahead a b _).use ?_|refine kw1 h' ?_|exact kwz
 ·have h':¬(b - a)%65536≥1:=h
  repeat first|with_reducible refine (ahead a b _).use ?_|refine kw1 h' ?_|exact kwz
theorem within (n l m:Int) (H:AHeap):ARet Try.prog 21 [.int .i64 n,.int .i64 l,.int .i64 m] H (.bool (decide (l≤n∧n≤m))) H:=by
 refine AC.enter Try.func21 rfl (by kernel_rfl) 15 rfl [.tmp 6] rfl (by simp) fun hsc B=> ?_
 by_cases h:l≤n
 ·have h':n≥l:=h
  repeat first|refine kw1 h' ?_|exact kwz
 ·have h':¬n≥l:=h
  repeat first|refine kw1 h' ?_|exact kwz
end Go.Proofs.Ytdgmcckfdgnicaa

set_option linter.unusedVariables false
set_option linter.unusedSimpArgs false
set_option maxRecDepth 20000
namespace Go.Proofs.Ytdgmcckfdgnicaa
open Go Go.Aw Go.Proofs
def intsC (l:List Int):List Value:=l.map (.int .i64)
theorem intsC_length (l:List Int):(intsC l).length=l.length:=by simp [intsC]
theorem intsC_scalar (l:List Int):(intsC l).all scalar=true:=by simp [intsC,scalar]
theorem intsC_get (l:List Int) {n:Nat} (h:n<l.length):(intsC l)[n]? =some (.int .i64 l[n]):=by simp [intsC,h]
theorem intsC_nil {l:List Int}:intsC l=[]↔l=[]:=by simp [intsC]
theorem intsC_snoc (l:List Int) (x:Int):intsC l++ [.int .i64 x]=intsC (l++[x]):=by simp [intsC]
end Go.Proofs.Ytdgmcckfdgnicaa

set_option linter.unusedVariables false
set_option linter.unusedSimpArgs false
set_option maxRecDepth 20000
namespace Go.Proofs.Ytdgmcckfdgnicaa
open Go Go.Aw Go.Proofs
def lbit (s:List UInt8) (n:Nat):Bool:=(s.getD (n / 8) 0).toNat.testBit (n%8)
def namedN (s:List UInt8):List Nat:=(List.range (8*s.length)).filter (lbit s)
def namedA (s:List UInt8):List (List Value):=(namedN s).map fun (i:Nat)=> [.int .i64 ((i:Int)+2)]
theorem named (s:List UInt8) (H:AHeap):ARet Try.prog 73 [.string (bs s)] H (.func (.func 78) ⟨[]⟩ ⟨[.pointer (some ⟨H.length,0,none⟩)]⟩) (H++ [.cells [.string (bs s)] ⟨9,0,true,0,none⟩]):=by
 refine AC.enter Try.func73 rfl (by kernel_rfl) 4 rfl [.tmp 2] rfl (by simp) fun hsc B=> ?_
 repeat first|refine kw0 ?_|exact kwz
theorem named1 (s:List UInt8) (hs:s.length<1099511627776) (j:Nat):SeqG Try.prog 78 [.pointer (some ⟨j,0,none⟩)] (namedA s) (fun H=>∃k,H[j]? =some (.cells [.string (bs s)] k)):=by
 refine ⟨⟨_,Try.func78,by kernel_rfl,by kernel_rfl⟩,fun i H I D h0 hok hx hy=> ?_⟩
 refine AC.enter Try.func78 rfl (by kernel_rfl) 27 rfl [] rfl (by simp) fun hsc B=> ?_
 obtain ⟨k0,hk0⟩:=hok 0 H h0
 repeat first|refine kw1 hk0 ?_|exact kwy
 refine AWP.loopP (fun s2:Nat×AHeap=>⟨[(0,.func (.yield i) ⟨[]⟩ ⟨[]⟩),(1,.pointer (some ⟨j,0,none⟩)),(6,.int .i64 (8*(s.length:Int))),(7,.int .i64 (s2.1:Nat))],[],s2.2⟩) (fun s2=>s2.1≤8*s.length∧I ((List.range s2.1).filter (lbit s)).length s2.2) (fun s2=>8*s.length - s2.1) (0,H) ?_ ⟨by simp,h0⟩ ?_
 ·exact Weak.env (by simp [envIn,lk_cons,wth_some])
 rintro ⟨n,H1⟩ ⟨hn,hn1⟩
 simp only at hn hn1
 by_cases hc:n<8*s.length
 ·have hc':(n:Int)<8*(s.length:Int):=by omega
  obtain ⟨k,hk⟩:=hok _ H1 hn1
  have hg:s[n / 8]? =some (s.getD (n / 8) 0):=by rw [List.getD_eq_getElem?_getD,List.getElem?_eq_getElem (by omega)];rfl
  have hbit:(andI .u8 (shrI .u8 ((s.getD (n / 8) 0).toNat:Int) ((n%8:Nat):Int)) 1==1)=lbit s n:=bit8 _ _ (by omega)
  have hfs:=filter_range_succ (p:=lbit s) (i:=n)
  cases hb:lbit s n with
  | true=>
   rw [hb] at hbit
   rw [hb,if_pos rfl] at hfs
   have hl:(namedA s)[((List.range n).filter (lbit s)).length]? =some [.int .i64 ((n:Int)+2)]:=by
    unfold namedA namedN
    rw [List.getElem?_map,filter_range_get hc hb];rfl
   have hyy:=hy _ _ H1 hl hn1
   repeat first|refine kw6 hc' hk hg @tdiv8 @tmod8 hbit ?_|exact kwy
   refine AY.mono hyy ?_
   rintro v H2 ⟨b,rfl,hb1,hb2⟩
   cases b with
   |true=>
    repeat first|refine kw0 ?_|exact kwy
    exact ⟨(n+1,H2),Weak.env (by simp [envIn,lk_cons,wth_some]),by omega,by rw [hfs];exact hb1 rfl,by simp;omega⟩
   |false=>
    repeat first|refine kw0 ?_|exact kwy
    exact ⟨_,_,.refl _ _ _,rfl,.inr (hb2 rfl)⟩
  |false=>
   rw [hb] at hbit
   rw [hb,if_neg (by simp)] at hfs
   repeat first|refine kw6 hc' hk hg @tdiv8 @tmod8 hbit ?_|exact kwy
   exact ⟨(n+1,H1),Weak.env (by simp [envIn,lk_cons,wth_some]),by omega,by rw [hfs];exact hn1,by simp;omega⟩
 ·have hc':¬(n:Int)<8*(s.length:Int):=by omega
  have:n=8*s.length:=by omega
  subst this
  repeat first|refine kw1 hc' ?_|exact kwy
  exact ⟨_,_,.refl _ _ _,rfl,.inl (by unfold namedA namedN;rw [List.length_map];exact hn1)⟩
end Go.Proofs.Ytdgmcckfdgnicaa

set_option linter.unusedVariables false
set_option linter.unusedSimpArgs false
set_option maxRecDepth 20000
namespace Go.Proofs.Ytdgmcckfdgnicaa
open Go Go.Aw Go.Proofs
def setB (c:List UInt8) (i:Nat):List UInt8:=c.set (i / 8) (UInt8.ofNat ((c.getD (i / 8) 0).toNat ||| 2 ^ (i%8)))
def bytes4 (far:List Nat):List UInt8:=far.foldl setB [0,0,0,0]
def trimN (c:List UInt8):Nat→Nat
 |0=>0
 |n+1=>if c.getD n 0=0 then trimN c n else n+1
def markB (far:List Nat):List UInt8:=(bytes4 far).take (trimN (bytes4 far) 4)
def farC (far:List Nat):List Value:=intsC (far.map fun (i:Nat)=>(i:Int))
theorem setB_len (c:List UInt8) (i:Nat):(setB c i).length=c.length:=by simp [setB]
theorem foldl_len (far:List Nat):∀c:List UInt8,(far.foldl setB c).length=c.length:=by
 induction far with
 |nil=>intro c;rfl
 |cons i r ih=>intro c;rw [List.foldl_cons,ih,setB_len]
theorem bytes4_len (far:List Nat):(bytes4 far).length=4:=foldl_len far _
theorem farC_len (far:List Nat):(farC far).length=far.length:=by simp [farC,intsC]
def lowF (far:List Nat):List Nat:=far.filter (· <32)
theorem lowF_snoc (far:List Nat) (i:Nat):lowF (far++[i])=if i<32 then lowF far++[i] else lowF far:=by
 unfold lowF
 rw [List.filter_append]
 by_cases h:i<32<;> simp [h]
theorem markedG (far:List Nat) (hfl:far.length<1099511627776) (v:Value) (H:AHeap) (hv:Rd H v (farC far)):ARet Try.prog 51 [v] H (.string (bs (markB (lowF far)))) H:=by
 have q1:∀H' K,lenW Try.prog 34 v H' K=K (.int .i64 (far.length:Nat)) H':=fun H' K=>by rw [hv.lenW Try.underlying34,farC_len]
 refine AC.enter Try.func51 rfl (by kernel_rfl) 43 rfl [.tmp 2] rfl (by simp) fun hsc B=> ?_
 repeat first|with_reducible refine kc ?_|((with_reducible first|refine kr ?_ ?_|refine kt ?_ ?_);exact rfl)|((with_reducible refine kf ?_ ?_);exact rfl)|simp only [go_sem,sevalprocAttr,reduceCtorEq,makeSliceW,q1]|simp (disch:=omega) only [wz]|with_reducible_and_instances exact finR|((with_reducible refine finR' ?_ ?_)<;> rfl)|((with_reducible refine finD hsc (NRel.of_plain ?_));exact rfl)
 refine AWP.loopP (fun n:Nat=>⟨[(3,.slice (some ⟨H.length,0,none⟩) 4 4),(8,v),(9,.int .i64 (far.length:Nat)),(10,.int .i64 (n:Nat))],[],H++ [.cells (bytesC ((lowF (far.take n)).foldl setB [0,0,0,0])) ⟨5,0,true,0,none⟩]⟩) (fun n=>n≤far.length) (fun n=>far.length - n) 0 ?_ (Nat.zero_le _) ?_
 ·simp only [repZ_one,bytesC_zeros]
  exact Weak.env (by simp [envIn,lk_cons,wth_some])
 intro n hn
 by_cases hc:n<far.length
 ·have hc':(n:Int)<(far.length:Int):=by omega
  rcases hv with ⟨rfl,e1⟩|⟨i,o,cap,cs,k,rfl,hi,hg⟩
  ·have:far.length=0:=by rw [← farC_len far,e1];rfl
   omega
  have hil:=lt_of_get hi
  have g1:cs[o+n]? =some (.int .i64 ((far[n]:Nat):Int)):=by
   rw [hg n (by rw [farC_len];exact hc),farC,intsC_get _ (by simpa using hc)];simp
  by_cases hlt:far[n]<32
  ·have hlt':((far[n]:Nat):Int)<32:=by omega
   let c:=(lowF (far.take n)).foldl setB [0,0,0,0]
   have hcl:c.length=4:=foldl_len _ _
   have hq:far[n] / 8<4:=by omega
   have hgc:(bytesC c)[far[n] / 8]? =some (.int .u8 (c.getD (far[n] / 8) 0).toNat):=by
    rw [bytesC_get,List.getD_eq_getElem?_getD,List.getElem?_eq_getElem (by omega)];rfl
   have h2p:2 ^ (far[n]%8)<256:=Nat.pow_lt_pow_right (n:=8) (by omega) (by omega)
   have hs:shlI .u8 1 ((far[n]%8:Nat):Int)=((2 ^ (far[n]%8):Nat):Int):=shlI_n8 _ (by omega)
   have hor:orI .u8 ((c.getD (far[n] / 8) 0).toNat:Int) ((2 ^ (far[n]%8):Nat):Int)=((UInt8.ofNat ((c.getD (far[n] / 8) 0).toNat ||| 2 ^ (far[n]%8))).toNat:Int):=by
    rw [orI_n8 _ _ (UInt8.toNat_lt _) h2p,toNat_ofNat8 (Nat.or_lt_two_pow (n:=8) (UInt8.toNat_lt _) h2p)]
   have hstep:c.set (far[n] / 8) (UInt8.ofNat ((c.getD (far[n] / 8) 0).toNat ||| 2 ^ (far[n]%8)))=(lowF (far.take (n+1))).foldl setB [0,0,0,0]:=by
    rw [List.take_add_one,List.getElem?_eq_getElem hc,Option.toList_some,lowF_snoc,if_pos hlt,List.foldl_append];rfl
   have hcd:(lowF (far.take n)).foldl setB [0,0,0,0]=c:=rfl
   rw [hcd]
   clear_value c
   have hz0:(0:Int)≤((far[n] / 8:Nat):Int):=Int.natCast_nonneg _
   have hz4:((far[n] / 8:Nat):Int)<4:=by omega
   repeat first|refine kw7 hc' hi hil @hgetl g1 @farC_len hlt' ?_|exact kwz
   refine AWP.regionK 10 (by kernel_rfl) (by decide) (by kernel_rfl) ?_
   repeat first|with_reducible refine kc ?_|((with_reducible first|refine kr ?_ ?_|refine kt ?_ ?_);exact rfl)|((with_reducible refine kf ?_ ?_);exact rfl)|simp only [go_sem,sevalprocAttr,reduceCtorEq,tdiv8,tmod8,hgc,hs,hor,hz0,hz4]|simp (disch:=omega) only [wz]|with_reducible_and_instances exact finR|((with_reducible refine finR' ?_ ?_)<;> rfl)|((with_reducible refine finD hsc (NRel.of_plain ?_));exact rfl)
   refine ⟨by omega,?_⟩
   repeat first|refine kw0 ?_|exact kwz
   rw [hstep]
   exact ⟨n+1,Weak.env (by simp [envIn,lk_cons,wth_some,farC_len]),by omega,by omega⟩
  ·have hlt':¬((far[n]:Nat):Int)<32:=by omega
   have hstep:lowF (far.take (n+1))=lowF (far.take n):=by
    rw [List.take_add_one,List.getElem?_eq_getElem hc,Option.toList_some,lowF_snoc,if_neg hlt]
   repeat first|refine kw7 hc' hi hil @hgetl g1 @farC_len hlt' ?_|exact kwz
   rw [← hstep]
   exact ⟨n+1,Weak.env (by simp [envIn,lk_cons,wth_some,farC_len]),by omega,by omega⟩
 ·have:n=far.length:=by omega
  subst this
  have hc':¬(far.length:Int)<(far.length:Int):=by omega
  repeat first|refine kw1 hc' ?_|exact kwz
  rw [List.take_length]
  have hm:markB (lowF far)=(bytes4 (lowF far)).take (trimN (bytes4 (lowF far)) 4):=rfl
  have hcl:(bytes4 (lowF far)).length=4:=bytes4_len _
  have hbd:(lowF far).foldl setB [0,0,0,0]=bytes4 (lowF far):=rfl
  rw [hbd,hm]
  obtain ⟨c,hc0⟩:∃c,c=bytes4 (lowF far):=⟨_,rfl⟩
  rw [← hc0] at hcl ⊢
  clear hm hbd hc0
  refine AWP.loopP (fun n:Nat=>⟨[(3,.slice (some ⟨H.length,0,none⟩) 4 4),(6,.int .i64 (n:Nat))],[],H++ [.cells (bytesC c) ⟨5,0,true,0,none⟩]⟩) (fun n=>n≤4∧trimN c n=trimN c 4) (fun n=>n) 4 ?_ ⟨Nat.le_refl _,rfl⟩ ?_
  ·exact Weak.env (by simp [envIn,lk_cons,wth_some])
  rintro n ⟨hn4,ht⟩
  rcases n with _|n
  ·have ht0:trimN c 4=0:=ht.symm
   rw [ht0]
   repeat first|refine kw0 ?_|exact kwz
  ·have h1:((n+1:Nat):Int)>0:=by omega
   have h2:IntKind.i64.wrap (((n+1:Nat):Int) - 1)=(n:Nat):=by rw [IntWalk.i64_in _ (by omega)];omega
   have h3:(n:Int)<4:=by omega
   have hg:(bytesC c)[n]? =some (.int .u8 (c.getD n 0).toNat):=by
    rw [bytesC_get,List.getD_eq_getElem?_getD,List.getElem?_eq_getElem (by omega)];rfl
   have hn0:((n+1:Nat):Int)≤4:=by omega
   have hn1:n+1≤c.length:=by omega
   by_cases hz:c.getD n 0=0
   ·have hb0:(((0:UInt8).toNat:Int)==0)=true:=rfl
    rw [hz] at hg
    have ht':trimN c n=trimN c 4:=by rw [← ht,trimN,if_pos hz]
    repeat first|refine kw5 h1 h2 h3 hg hb0 ?_|exact kwz
    exact ⟨n,Weak.env (by simp [envIn,lk_cons,wth_some]),by omega,ht',by omega⟩
   ·have ht':trimN c 4=n+1:=by rw [← ht,trimN,if_neg hz]
    have hnz:(((c.getD n 0).toNat:Int)==0)=false:=by
     have:(c.getD n 0).toNat≠0:=fun e=>hz (UInt8.toNat_inj.1 (by simpa using e))
     simpa using this
    rw [ht']
    repeat first|refine kw7 h1 h2 h3 hg hnz hn0 hn1 ?_|exact kwz
theorem marked (far:List Nat) (hf:∀i∈far,i<32) (hfl:far.length<1099511627776) (v:Value) (H:AHeap) (hv:Rd H v (farC far)):ARet Try.prog 51 [v] H (.string (bs (markB far))) H:=by
 have h:=markedG far hfl v H hv
 have e:lowF far=far:=List.filter_eq_self.2 fun i hi=>decide_eq_true (hf i hi)
 rwa [e] at h
end Go.Proofs.Ytdgmcckfdgnicaa
