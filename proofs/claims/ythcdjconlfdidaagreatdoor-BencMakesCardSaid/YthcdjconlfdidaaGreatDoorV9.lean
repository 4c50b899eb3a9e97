/-
 The law of BencMakes:what is made is the specification's.
-/
import Derived.Test.YthcdjconlfdidaaGreatDoorV8
import Derived.Test.YthcdjconlfdidaaGreatDoorEG
import Derived.Test.YthcdjconlfdidaaGreatDoorE4M
import Derived.Test.YthcdjconlfdidaaGreatDoorEYM
set_option linter.unusedVariables false
set_option linter.unusedSimpArgs false
set_option maxRecDepth 20000
set_option maxHeartbeats 4000000
namespace Go.Proofs.YthcdjconlfdidaaGreatDoor
open Go Go.Aw Go.Proofs
structure LightL (l:List BV):Prop where
 num:BV.numsL l
 sz:szL l
 len:(BV.writeL l).length≤142000000*l.length
 cnt:BV.countL l≤2000*l.length
theorem lightL_of:∀(l:List BV),BV.numsL l→ (∀ v∈l,lightB v=true)→LightL l
 |[],_,_=>⟨trivial,trivial,by simp [BV.writeL],by simp [BV.countL]⟩
 | v::l,hn,h=>by
  unfold BV.numsL at hn
  have ih:=lightL_of l hn.2 fun v hv=>h v (List.mem_cons_of_mem _ hv)
  have hv:=h v List.mem_cons_self
  unfold lightB at hv
  cases hvv:lightV 30 2000 v with
  |none=>rw [hvv] at hv;cases hv
  |some a=>
   obtain ⟨h1,h2,h3⟩:=light_len v 30 2000 a (Nat.le_refl _) hn.1 hvv
   have hw:(BV.writeL (v::l)).length=v.write.length+(BV.writeL l).length:=by simp only [BV.writeL,List.length_append]
   have hc:BV.countL (v::l)=v.count+BV.countL l:=by simp only [BV.countL]
   have l1:=ih.len
   have l2:=ih.cnt
   refine ⟨?_,?_,?_,?_⟩
   ·unfold BV.numsL;exact hn
   ·unfold szL;exact ⟨h3,ih.sz⟩
   ·rw [hw,List.length_cons];omega
   ·rw [hc,List.length_cons];omega
theorem LightL.list {l:List BV} (h:LightL l) (hl:l.length≤20):Fine (.mk 3 0 [] l [])∧(BV.mk 3 0 [] l []).count≤1099511627776:=by
 have h1:=h.len
 have h2:=h.cnt
 refine ⟨⟨?_,?_,?_⟩,?_⟩
 ·unfold szV;exact ⟨by omega,by simp,h.sz⟩
 ·unfold BV.nums;exact ⟨⟨by decide,by decide⟩,h.num⟩
 ·unfold BV.write
  rw [if_neg (by decide),if_neg (by decide),if_pos rfl]
  simp only [List.length_cons,List.length_append,List.length_nil];omega
 ·unfold BV.count;omega
theorem fine_text (s:Tx) (hs:s.length≤70000):Fine (.mk 2 0 s [] [])∧(BV.mk 2 0 s [] []).count≤1099511627776:=by
 have ht:=wText_len s
 have hti:=itoa_le (s.length:Nat) (by omega) (by omega)
 refine ⟨⟨?_,?_,?_⟩,?_⟩
 ·unfold szV;exact ⟨by simp,by simp,trivial⟩
 ·unfold BV.nums;exact ⟨⟨by decide,by decide⟩,trivial⟩
 ·unfold BV.write
  rw [if_neg (by decide),if_pos rfl]
  omega
 ·unfold BV.count BV.countL;omega
theorem lightL_mem {l m:List BV} (h:∀v∈l,v.nums∧lightB v=true) (hm:∀v∈m,v∈l):LightL m:=
 lightL_of m (BV.numsL_iff.2 fun v hv=>(h v (hm v hv)).1) fun v hv=>(h v (hm v hv)).2
theorem dict_fine {keys ks:List Tx} {l vs:List BV} (h:∀v∈l,v.nums∧lightB v=true) (hl:l.length≤20) (hk:shortB keys=true) (hg:dictGo [] [] (keys.zip l)=some (ks,vs)):Fine (.mk 4 0 [] vs ks)∧(BV.mk 4 0 [] vs ks).count≤1099511627776:=by
 obtain ⟨-,g2,g3,g4,g5⟩:=dictGo_inv _ _ _ _ _ rfl rfl hg
 have hz:(keys.zip l).length≤20:=by rw [List.length_zip];omega
 have g2:ks.length=(keys.zip l).length:=by simpa using g2
 have g3:vs.length=(keys.zip l).length:=by simpa using g3
 have hL:=lightL_mem h (m:=vs) fun v hv=>by
  rcases g5 v hv with h1|⟨p,hp,rfl⟩
  ·cases h1
  ·exact (List.of_mem_zip hp).2
 have hks:∀k∈ks,k.length≤300:=fun k hkm=>by
  rcases g4 k hkm with h1|⟨p,hp,rfl⟩
  ·cases h1
  ·unfold shortB at hk
   rw [Bool.and_eq_true,List.all_eq_true] at hk
   simpa using hk.1 _ (List.of_mem_zip hp).1
 have hkw:keysW ks≤321*ks.length:=keysW_bound ks (by
  rw [List.any_eq_false]
  intro x hx
  have:=hks x hx
  simp;omega)
 have hd:=writeD_bound ks vs
 have h1:=hL.len
 have h2:=hL.cnt
 refine ⟨⟨?_,?_,?_⟩,?_⟩
 ·unfold szV;exact ⟨by omega,by omega,hL.sz⟩
 ·unfold BV.nums;exact ⟨⟨by decide,by decide⟩,hL.num⟩
 ·unfold BV.write
  rw [if_neg (by decide),if_neg (by decide),if_neg (by decide)]
  simp only [List.length_cons,List.length_append,List.length_nil];omega
 ·unfold BV.count;omega
theorem dict_sz {keys:List Tx} {l:List BV} (h:∀v∈l,v.nums∧lightB v=true) (hl:l.length≤20) (hk:shortB keys=true):szV (dictR keys l).1:=by
 have hz:szV .zero:=by
  unfold BV.zero szV
  exact ⟨by simp,by simp,trivial⟩
 unfold dictR
 split
 ·cases hg:dictGo [] [] (keys.zip l) with
  |none=>exact hz
  |some p=>
   obtain ⟨ks,vs⟩:=p
   dsimp only
   split
   ·exact (dict_fine h hl hk hg).1.sz
   ·exact hz
 ·exact hz
end Go.Proofs.YthcdjconlfdidaaGreatDoor
