/-
  A part of the proof of a statement of this seat.
-/
import Derived.Test.YthcdjconlfdidaaGreatDoorAwC
import Derived.Test.YthcdjconlfdidaaGreatDoorAwB
import Derived.Shelf.Strings.Split
import Derived.Shelf.Strings.Cut
import Derived.Shelf.Strconv.AtoiAll
import Derived.Shelf.Strconv.Itoa4
import Derived.WalkSmall
import Derived.Lib.AppendIntMem
import Derived.Test.YthcdjconlfdidaaGreatDoorCCM
import Derived.Lib.AtoiAll
set_option linter.unusedVariables false
set_option linter.unusedSimpArgs false
namespace Go.Aw
open Go.Proofs Go.Shelf Go.ChangeShapes Go.WideShapes Go.ChangeAt Go.RowKit
def globO (e:TypeId) (g:Nat) (v:Value):AObj:= .cells [v] ⟨e,0,false,0,some g⟩
theorem cell_of_rel {c:Ctx} {H:AHeap} {w:World} (h:HRel c H w) {i g:Nat} {e:TypeId} {v:Value} (hg:H[i]? =some (globO e g v)):∃v',w.cell? ⟨g,0,none⟩=some v'∧VRel c v v':=by
 obtain ⟨p,hp,hr⟩:=h.obj i _ hg rfl
 obtain ⟨_,_,_,hgl,_⟩:=hr
 obtain ⟨q1,q2,_⟩:=hgl g rfl
 obtain ⟨v',h1,h2⟩:=h.cell hg hp (off:=0) (v:=v) rfl
 rw [q1,q2] at h1
 exact ⟨v',h1,h2⟩
theorem cell_int_of_rel {c:Ctx} {H:AHeap} {w:World} (h:HRel c H w) {i g:Nat} {e:TypeId} {k:IntKind} {m:Int} (hg:H[i]? =some (globO e g (.int k m))):w.cell? ⟨g,0,none⟩=some (.int k m):=by
 obtain ⟨v',h1,h2⟩:=cell_of_rel h hg
 rw [h2.scalar_eq rfl] at h1
 exact h1
theorem Lent.name {c:Ctx} {H:AHeap} {w:World} (h:Lent c H w) (p:Place):Lent (c.add H.length p) (H++ [.dead]) w:=by
 have hle:=h.le p
 have hd:∀(i:Nat) (o:AObj),(H++[AObj.dead])[i]? =some o→o= .dead∨H[i]? =some o:=fun i o e=>by
  by_cases hi:i<H.length
  ·right;rwa [hgetl hi] at e
  ·left
   rw [List.getElem?_append_right (by omega)] at e
   have:=List.mem_of_getElem? e
   simpa using this
 refine ⟨⟨fun i o e hl=> ?_,fun i j oi oj pi pj hij hi hj ci cj ho hl=> ?_,fun i hi=> ?_⟩,fun i o e=> ?_⟩
 ·rcases hd i o e with rfl|e
  ·cases hl
  ·obtain ⟨q,hq,hr⟩:=h.rel.obj i o e hl
   exact ⟨q,hle _ _ hq,hr.keep hle hl rfl⟩
 ·rcases hd i oi hi with rfl|e1
  ·cases ho
  ·rw [h.own i oi e1] at ho;cases ho
 ·simp at hi
  rw [Ctx.add_other _ _ (by omega)];exact h.rel.fresh i (by omega)
 ·rcases hd i o e with rfl|e
  ·rfl
  ·exact h.own i o e
theorem Lent.glob {c:Ctx} {H:AHeap} {w:World} (h:Lent c H w) {g:Nat} {e:TypeId} {fr:Nat×Nat} {v v':Value} (hb:w.heap[g]? =some (.cells #[v'] e fr)) (hv:VRel c v v'):
  ∃c':Ctx,Lent c' (H++[globO e g v]) w∧c.le c':=by
 have hle:c.le (c.add H.length ⟨g,0,1,0,0⟩):=h.le _
 have hlast:∀(i:Nat) (o:AObj),(H++[globO e g v])[i]? =some o→¬i<H.length→i=H.length∧o=globO e g v:=fun i o hi h1=>by
  have hlt:=lt_of_get hi
  simp at hlt
  have:i=H.length:=by omega
  subst this
  rw [hget0 rfl] at hi
  simp at hi
  exact ⟨rfl,hi.symm⟩
 refine ⟨c.add H.length ⟨g,0,1,0,0⟩,⟨⟨fun i o hi hlv=> ?_,fun i j oi oj pi pj hij hi hj _ _ ho _=> ?_,fun i hi=> ?_⟩,fun i o hi=> ?_⟩,hle⟩
 ·by_cases h1:i<H.length
  ·rw [hgetl h1] at hi
   obtain ⟨p,hp',hr⟩:=h.rel.obj i o hi hlv
   exact ⟨p,hle _ _ hp',hr.keep hle hlv rfl⟩
  ·obtain ⟨rfl,rfl⟩:=hlast i o hi h1
   refine ⟨⟨g,0,1,0,0⟩,by simp [Ctx.add],rfl,rfl,fun _=>⟨rfl,fun o=>(by cases o)⟩,fun n hn'=>⟨Option.some.inj hn',rfl,fun a r hh=> ?_⟩,#[v'],fr.1,fr.2,hb,?_,by simp,fun hk=>by cases hk⟩
   ·rw [hb] at hh
    cases hh
    rfl
   ·intro j u hj
    match j,hj with
    |0,hj=>
     cases hj
     exact ⟨v',rfl,hv.mono hle⟩
 ·by_cases h1:i<H.length
  ·rw [hgetl h1] at hi
   rw [h.own i oi hi] at ho;cases ho
  ·obtain ⟨rfl,rfl⟩:=hlast i oi hi h1
   cases ho
 ·simp at hi
  rw [Ctx.add_other _ _ (by omega)];exact h.rel.fresh i (by omega)
 ·by_cases h1:i<H.length
  ·rw [hgetl h1] at hi;exact h.own i o hi
  ·obtain ⟨rfl,rfl⟩:=hlast i o hi h1
   rfl
theorem AC.ofCalls {P:Program} {f:FuncId} {fn:Func} {args:List Value} {K:ARes→AHeap→Prop} (hf:P.funcs[f]? =some fn) (hb:fn.body.isSome=true) (hn:(fn.name== "runtime.NumGoroutine")=false) (ha:args.all scalar=true)
  (H:AHeap) (h:∀c w,HRel c H w→Calls P f ⟨args⟩ w (CPost K c H w)):AC P f args H K:=by
 intro c w vargs hh hvs
 have e:=hvs.scalars_eq ha
 subst e
 unfold CallTo
 have hbn:fn.body.isNone=false:=by cases hfb:fn.body<;> simp_all
 have hr:(callFunc f ⟨args⟩).run P w= .ok (.enter f ⟨args⟩) w:=by
  simp only [callFunc,Sem.run_bind,run_program,Result.andThen_ok,hf,hn,Bool.false_eq_true,if_false,hbn]
  rfl
 rw [hr]
 exact h c w hh
theorem ARet.split {P:Program} {ρ :Ren} (L:Lays.n146 P ρ) (hi9:(P.info? (ρ.t 9)).map (fun i=>(i.zero,i.size,i.bytes))=some (some (.string ByteArray.empty),1,16)) {fn:Func} (hf:P.funcs[ρ.f 146]? =some fn) (hb:fn.body.isSome=true) (hn:(fn.name== "runtime.NumGoroutine")=false)
  {i:Nat} {e:TypeId} {m:Int} {s sep:List UInt8} {H:AHeap} (hg:H[i]? =some (globO e (ρ.g 1) (.int .i64 m))) (hs:s.length<4294967281) (h1:1≤sep.length):
  ARet P (ρ.f 146) [.string (bs s),.string (bs sep)] H (.slice (some ⟨H.length,0,none⟩) (Lib.countB (bs s) (bs sep)+1) (Lib.countB (bs s) (bs sep)+1)) (H++ [.cells ((Lib.splitB (bs sep) 0 (Lib.countB (bs s) (bs sep)) (bs s)).map Value.string) ⟨ρ.t 9,1,true,0,none⟩]):=by
 refine AC.ofCalls hf hb hn rfl H fun c w hh=> ?_
 refine (Any.strings_Split L hi9 (bs s) (bs sep) m w (show (bs s).size<_ from hs) (cell_int_of_rel hh hg) (show 1≤(bs sep).size from h1)).mono fun e w' ⟨he,hw⟩=> ?_
 subst he;subst hw
 have hvs:VRels c ((Lib.splitB (bs sep) 0 (Lib.countB (bs s) (bs sep)) (bs s)).map Value.string) ((Lib.splitB (bs sep) 0 (Lib.countB (bs s) (bs sep)) (bs s)).map Value.string):=VRels.of_scalars (List.all_eq_true.2 fun x hx=>by
  obtain ⟨y,_,rfl⟩:=List.mem_map.1 hx;rfl)
 obtain ⟨g1,g2,g3⟩:=hh.alloc hvs (ρ.t 9) 1 H.length
 have hp:(c.add H.length ⟨w.heap.size,0,((Lib.splitB (bs sep) 0 (Lib.countB (bs s) (bs sep)) (bs s)).map Value.string).length,1,0⟩) H.length=some ⟨w.heap.size,0,((Lib.splitB (bs sep) 0 (Lib.countB (bs s) (bs sep)) (bs s)).map Value.string).length,1,0⟩:=by simp [Ctx.add]
 exact ⟨.ret _,_,_,⟨rfl,rfl⟩,.ret (VRel.slice (off:=0) hp),g1,g2⟩
theorem ARet.cut {P:Program} {ρ :Ren} (L:Lays.n145 P ρ) {fn:Func} (hf:P.funcs[ρ.f 145]? =some fn) (hb:fn.body.isSome=true) (hn:(fn.name== "runtime.NumGoroutine")=false)
  {i:Nat} {e:TypeId} {m:Int} {s sep:List UInt8} {H:AHeap} (hg:H[i]? =some (globO e (ρ.g 1) (.int .i64 m))) (hs:s.length<4294967281):
  ARet P (ρ.f 145) [.string (bs s),.string (bs sep)] H (.tuple ⟨[.string (bs (Lib.cut s sep).1),.string (bs (Lib.cut s sep).2.1),.bool (Lib.cut s sep).2.2]⟩) H:=by
 refine AC.ofCalls hf hb hn rfl H fun c w hh=> ?_
 refine (Any.strings_Cut L (bs s) (bs sep) m w (show (bs s).size<_ from hs) (cell_int_of_rel hh hg)).mono fun e w' ⟨he,n,hw⟩=> ?_
 subst he;subst hw
 have hbl:Below w.heap.size w (w.drewN n):=below_drewN (Below.refl _ _) n
 exact ⟨.ret _,c,H,⟨rfl,rfl⟩,.ret (.tuple (.cons (.string _) (.cons (.string _) (.cons (.bool _) .nil)))),hh.below hbl,.below hbl⟩
theorem HRel.named {c:Ctx} {H:AHeap} {w w':World} (h:HRel c H w) (hb:Below w.heap.size w w') {N:Nat} (hN:w.heap.size≤N) (n:Nat):
  HRel (c.add H.length ⟨N,0,0,0,0⟩) (H++ [.dead]) w'∧Trans n c H w (c.add H.length ⟨N,0,0,0,0⟩) (H++ [.dead]) w':=by
 obtain ⟨g1,g2,_⟩:=h.extend (w':=w') (p:=⟨N,0,0,0,0⟩) ⟨hb.tape,hb.os,hb.output⟩ hb.size (fun b hlt=>hb.block b hlt) hN (o:= .dead) trivial n
 exact ⟨g1,g2⟩
theorem iface_of_rel {c:Ctx} {H:AHeap} {w:World} (h:HRel c H w) {i g:Nat} {e t:TypeId} {v:Value} (hg:H[i]? =some (globO e g (.iface t v))):∃ev,w.cell? ⟨g,0,none⟩=some ev∧(ev= .nilIface∨∃te pe,ev= .iface te pe):=by
 obtain ⟨v',h1,h2⟩:=cell_of_rel h hg
 cases h2 with
 |iface h3=>exact ⟨_,h1,.inr ⟨_,_,rfl⟩⟩
theorem ARet.atoi_ok {P:Program} {ρ :Ren} (L:LaysC.n172 P ρ) {fn:Func} (hf:P.funcs[ρ.f 172]? =some fn) (hb:fn.body.isSome=true) (hn:(fn.name== "runtime.NumGoroutine")=false)
  {s:List UInt8} {H:AHeap} (hs:s.length≤281474976710656) {v:Int} (h:Lib.atoiAll s= .ok v):
  ARet P (ρ.f 172) [.string (bs s)] H (.tuple ⟨[.int .i64 v,.nilIface]⟩) H:=by
 refine AC.ofCalls hf hb hn rfl H fun c w hh=> ?_
 refine (Any.strconv_Atoi_ok L (bs s) (show (bs s).size≤_ from Nat.le_trans hs (by decide)) v h w).mono fun e w' ⟨he,hw⟩=> ?_
 subst he
 have hbl:Below w.heap.size w w':=by
  rcases hw with rfl|⟨t,rfl⟩
  ·exact Below.refl _ _
  ·exact Lib.bytesWorld_below _ _ _
 exact ⟨.ret _,c,H,⟨rfl,rfl⟩,.ret (.tuple (.cons (.int _ _) (.cons .nilIface .nil))),hh.below hbl,.below hbl⟩
theorem atoi_fin {t:TypeId} {H:AHeap} (c:Ctx) (w w':World) (n:Int) (N:Nat) (hh:HRel c H w) (hN:w.heap.size≤N) (hbl:Below w.heap.size w w'):
  CPost (fun r H1=>r= .ret (.tuple ⟨[.int .i64 n,.iface t (.pointer (some ⟨H.length,0,none⟩))]⟩)∧H1=H++ [.dead]) c H w (.returned (.tuple #[.int .i64 n,.iface t (.pointer (some ⟨N,0,none⟩))])) w':=by
 obtain ⟨g1,g2⟩:=hh.named hbl hN H.length
 have hp:(c.add H.length ⟨N,0,0,0,0⟩) H.length=some ⟨N,0,0,0,0⟩:=by simp [Ctx.add]
 exact ⟨.ret _,_,_,⟨rfl,rfl⟩,.ret (.tuple (.cons (.int _ _) (.cons (.iface (.ptr (off:=0) hp)) .nil))),g1,g2⟩
theorem ARet.atoi_no {P:Program} {ρ :Ren} (L:LaysC.n172 P ρ) {fn:Func} (hf:P.funcs[ρ.f 172]? =some fn) (hb:fn.body.isSome=true) (hn:(fn.name== "runtime.NumGoroutine")=false)
  {s:List UInt8} (hs:s.length≤281474976710656) (h:∀v,Lib.atoiAll s≠ .ok v):
  ∃n:Int,∀(H:AHeap),(∃ (i:Nat) (e t:TypeId) (v:Value),H[i]? =some (globO e (ρ.g 15) (.iface t v)))→ (∃ (i:Nat) (e t:TypeId) (v:Value),H[i]? =some (globO e (ρ.g 16) (.iface t v)))→
   ARet P (ρ.f 172) [.string (bs s)] H (.tuple ⟨[.int .i64 n,.iface (ρ.t 168) (.pointer (some ⟨H.length,0,none⟩))]⟩) (H++ [.dead]):=by
 cases hc:Lib.atoiAll s
 ·exact absurd hc (h _)
 ·refine ⟨0,fun H h1 h2=>AC.ofCalls hf hb hn rfl H fun c w hh=> ?_⟩
  obtain ⟨i,e1,t1,v1,hg⟩:=h1
  obtain ⟨ev,hv,hev⟩:=iface_of_rel hh hg
  refine (Any.strconv_Atoi_syntax L (bs s) (show (bs s).size≤_ from hs) hc ev w hv hev).mono fun e w' ⟨N,he,hN,_,hbl⟩=> ?_
  subst he
  exact atoi_fin c w w' 0 N hh hN hbl
 ·refine ⟨Lib.atoiSat s,fun H h1 h2=>AC.ofCalls hf hb hn rfl H fun c w hh=> ?_⟩
  obtain ⟨i,e1,t1,v1,hg⟩:=h2
  obtain ⟨ev,hv,hev⟩:=iface_of_rel hh hg
  refine (Any.strconv_Atoi_range L (bs s) (show (bs s).size≤_ from hs) hc ev w hv hev).mono fun e w' ⟨N,he,hN,_,hbl⟩=> ?_
  subst he
  exact atoi_fin c w w' _ N hh hN hbl
theorem ARet.itoa {P:Program} {ρ :Ren} (L:LaysM.n171 P ρ) {fn:Func} (hf:P.funcs[ρ.f 171]? =some fn) (hb:fn.body.isSome=true) (hn:(fn.name== "runtime.NumGoroutine")=false)
  {g:Nat} {e:TypeId} {H:AHeap} (hgn:P.globalNamed "internal/strconv.uint64pow10"=some g) (hg:H[g]? =some (tabO e g .u64 Lib.pow10Tab)) {n:Int} (h0: -9223372036854775808≤n) (h1:n≤9223372036854775807):
  ARet P (ρ.f 171) [.int .i64 n] H (.string (bs (Lib.itoa n))) H:=by
 refine ARet.ofCallsT hf hb hn rfl rfl H _ (fun c w hh=>tabIs_of_rel hh hgn hg) fun w ht=> ?_
 exact (Any.strconv_Itoa L n h0 h1 w ht).mono fun e w' ⟨he,k,os,hw⟩=>⟨he,by subst hw;exact Lib.below_grow _ w (Nat.le_refl _) k os⟩
end Go.Aw

set_option linter.unusedVariables false
namespace Go.Aw
open Go.Lib
theorem dd_digit:∀(v:Nat),∀c∈decDigits v,48≤c.toNat∧c.toNat≤57:=by
 intro v
 induction v using Nat.strongRecOn with
 | _ v ih=>
  intro c hc
  rcases Nat.lt_or_ge v 10 with h|h
  ·rw [dd_lt v h] at hc
   have:c=UInt8.ofNat (48+v):=by simpa using hc
   subst this
   rw [dig_nat v h];omega
  ·rw [dd_eq v h] at hc
   rcases List.mem_append.1 hc with hc|hc
   ·exact ih (v / 10) (by omega) c hc
   ·have:c=UInt8.ofNat (48+v%10):=by simpa using hc
    subst this
    rw [dig_nat _ (by omega)];omega
theorem parse_app:∀(l t:List UInt8) (acc u:Nat),parseUint10 acc l= .ok u→parseUint10 acc (l++t)=parseUint10 u t
 |[],t,acc,u,h=>by
  simp only [parseUint10] at h
  injection h with h
  subst h;rfl
 | c ::r,t,acc,u,h=>by
  rw [List.cons_append]
  simp only [parseUint10] at h ⊢
  split at h
  ·rename_i h1
   rw [if_pos h1]
   split at h
   ·cases h
   ·rename_i h2
    rw [if_neg h2]
    split at h
    ·cases h
    ·rename_i h3
     rw [if_neg h3]
     exact parse_app r t _ u h
  ·cases h
theorem dd_parse:∀(v:Nat),v<18446744073709551616→parseUint10 0 (decDigits v)= .ok v:=by
 intro v
 induction v using Nat.strongRecOn with
 | _ v ih=>
  intro hv
  rcases Nat.lt_or_ge v 10 with h|h
  ·rw [dd_lt v h]
   simp only [parseUint10]
   rw [dig_nat v h,if_pos (by omega),if_neg (by omega),if_neg (by omega)]
   congr 1;omega
  ·rw [dd_eq v h,parse_app _ _ _ _ (ih (v / 10) (by omega) (by omega))]
   simp only [parseUint10]
   rw [dig_nat _ (by omega),if_pos (by omega),if_neg (by omega),if_neg (by omega)]
   congr 1;omega
theorem dd_inj {a b:Nat} (ha:a<18446744073709551616) (hb:b<18446744073709551616) (h:decDigits a=decDigits b):a=b:=by
 have h1:=dd_parse a ha
 rw [h,dd_parse b hb] at h1
 injection h1 with h1
 exact h1.symm
theorem dd_atoi (v:Nat) (h:v<9223372036854775808):atoiAll (decDigits v)= .ok v:=by
 have hd:=dd_digit v
 have hp:=dd_parse v (by omega)
 have hne:=dd_ne v
 cases hc:decDigits v with
 |nil=>exact absurd hc hne
 |cons c r=>
  have h1:=hd c (by rw [hc];simp)
  rw [hc] at hp
  have e:parseMag (c::r)= .ok v:=by unfold parseMag;rw [if_neg (by simp),hp]
  unfold atoiAll
  simp only
  rw [if_neg (by omega),e]
  simp only
  rw [if_neg (by omega),if_neg (by omega),if_neg (by omega)]
end Go.Aw
