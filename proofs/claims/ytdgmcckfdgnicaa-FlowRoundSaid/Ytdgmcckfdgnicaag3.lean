/-
 Ends whose numbers are others by so many:taking packets (plain).
-/
import Derived.Test.Ytdgmcckfdgnicaag1M
set_option linter.unusedVariables false
set_option linter.unusedSimpArgs false
set_option maxRecDepth 20000
namespace Go.Proofs.Ytdgmcckfdgnicaa
open Go Go.Aw Go.Proofs
theorem bump_sh (d:Int) (p:Pk):bumpP (shP d p)=shP d (bumpP p):=by
 unfold bumpP
 rw [show (shP d p).later=p.later from rfl,show (shP d p).quick=p.quick from rfl,show (shP d p).lost=p.lost from rfl]
 split<;> rfl
theorem findIdx_sh (d n:Int) (l:List Pk):(l.map (shP d)).findIdx? (fun p=>p.number==n+d)=l.findIdx? (fun p=>p.number==n):=by
 rw [List.findIdx?_map]
 congr 1
 funext p
 show (p.number+d==n+d)=_
 by_cases h:p.number=n
 ·rw [h];simp
 ·rw [beq_false_of_ne h,beq_false_of_ne (fun g=>h (by omega))]
theorem ES.gone {d by_:Int} {s t:E} (h:ES d by_ s t) (n n2:Int) (hn:n2=n+d):ES d by_ (goneR s n) (goneR t n2):=by
 have hf:=h.form
 unfold goneR
 rw [h.flight,hn,findIdx_sh]
 split
 ·exact h
 ·rename_i i _
  rw [List.getElem?_map]
  cases hp:s.flight[i]? with
  |none=>exact h
  | some p=>
   simp only [Option.map_some]
   refine h.of ?_ rfl rfl rfl rfl (.inl rfl)
   generalize t.base=tb at*
   generalize t.kept=tk at*
   subst hf
   unfold goneAt
   have e1:((s.flight.map (shP d)).take i).map bumpP++(s.flight.map (shP d)).drop (i+1)=((s.flight.take i).map bumpP++s.flight.drop (i+1)).map (shP d):=by
    rw [List.map_append,←List.map_take,←List.map_drop,List.map_map,List.map_map]
    congr 2
    funext p
    exact bump_sh d p
   dsimp only at e1 ⊢
   rw [e1]
   rfl
theorem ES.up {d by_:Int} {s t:E} (h:ES d by_ s t):∀n,ES d by_ (goneUp s n) (goneUp t n)
 |0=>h
 |n+1=>by
  rw [goneUp_succ,goneUp_succ]
  refine (ES.up h n).gone _ _ ?_
  rw [show t.acked=s.acked+d from by rw [h.form]]
  omega
theorem ES.mk_ {d by_:Int} (b b2:Int) (hb:b2=b+d):∀(l:List Int) {s t:E},ES d by_ s t→ES d by_ (goneMk s b l) (goneMk t b2 l)
 |[],s,t,h=>h
 |x::l,s,t,h=>ES.mk_ b b2 hb l (h.gone (b+x) (b2+x) (by omega))
theorem ES.ack {d by_:Int} {s t:E} (h:ES d by_ s t) (hd:ByOk d by_) {ack ack2:Int} (ha:ack2=(ack+by_)%65536) (marks:List UInt8):ES d by_ (ackR s ack marks) (ackR t ack2 marks):=by
 have hf:=h.form
 have hac:t.acked=s.acked+d∧t.next=s.next+d:=by rw [hf];exact ⟨rfl,rfl⟩
 have hD:ackD t ack2=ackD s ack:=by
  unfold ByOk at hd
  have:(ack2 - t.acked)%65536=(ack - s.acked)%65536:=by rw [ha,hac.1];omega
  unfold ackD
  rw [this]
 have hT:ackTo t ack2=ackTo s ack+d:=by
  unfold ackTo
  rw [hD,hac.1];omega
 unfold ackR
 by_cases c1:ackTo s ack≥s.next
 ·rw [if_pos c1,if_pos (show ackTo t ack2≥t.next by rw [hT,hac.2];omega)]
  exact h
 ·rw [if_neg c1,if_neg (show ¬ackTo t ack2≥t.next by rw [hT,hac.2];omega)]
  have hk:(ackTo t ack2 - t.acked).toNat=(ackTo s ack - s.acked).toNat:=by rw [hT,hac.1];omega
  rw [hk]
  refine ES.mk_ _ _ hT _ ?_
  have h2:=h.up (ackTo s ack - s.acked).toNat
  have hf2:=h2.form
  refine h2.of ?_ rfl rfl rfl rfl (.inl rfl)
  have hm:max t.acked (ackTo t ack2)=max s.acked (ackTo s ack)+d:=by rw [hT,hac.1];omega
  rw [hm]
  generalize goneUp t (ackTo s ack - s.acked).toNat=t2 at*
  generalize goneUp s (ackTo s ack - s.acked).toNat=s2 at*
  generalize t2.base=tb at*
  generalize t2.kept=tk at*
  subst hf2
  rfl
def KeyOk (s:E):Prop:=∀x∈s.kept,0≤x.1∧x.1<65536
theorem kept_ES {by_:Int} {l m:List (Int×Sg)} (h:All2 (KS by_) l m) (hk:∀x∈l,0≤x.1∧x.1<65536) {n n2:Int} (hn:0≤n∧n<65536) (hn2:n2=(n+by_)%65536):(kept? l n=none∧kept? m n2=none)∨∃p q,kept? l n=some p∧kept? m n2=some q∧SgS by_ p q:=by
 induction h with
 |nil=>exact .inl ⟨rfl,rfl⟩
 | @cons x y l m h t ih=>
  have hx:=hk x (List.mem_cons_self ..)
  have ih:=ih fun z hz=>hk z (List.mem_cons_of_mem _ hz)
  unfold kept? at*
  rw [List.find?_cons,List.find?_cons]
  have h1:=h.1
  by_cases hc:x.1=n
  ·rw [show (x.1==n)=true from by simp [hc],show (y.1==n2)=true from by rw [h1,hn2,hc];simp]
   exact .inr ⟨_,_,rfl,rfl,h.2⟩
  ·rw [show (x.1==n)=false from by simpa using hc,show (y.1==n2)=false from by
    rw [h1,hn2]
    simp only [beq_eq_false_iff_ne]
    omega]
   exact ih
theorem ES.pass {d by_:Int}:∀(n:Nat) (s t:E),KeyOk s→(0≤s.base∧s.base<65536)→(s.state≠0∧s.state≠1∧s.state≠5)→ES d by_ s t→ES d by_ (passGo n s) (passGo n t)
 |0,s,t,hk,hb,hs,h=>h
 | n + 1,s,t,hk,hb,hs,h=>by
  have hbs:t.base=(s.base+by_)%65536:=by
   rcases h.base with ⟨_,_,g⟩|g
   ·omega
   ·exact g
  have he:t.ended=s.ended:=by rw [h.form]
  unfold passGo
  rcases kept_ES h.kept hk (n:=(s.base+1)%65536) (n2:=(t.base+1)%65536) (by omega) (by rw [hbs];omega) with ⟨g1,g2⟩|⟨p,q,g1,g2,hpq⟩
  ·rw [g1,g2];exact h
  ·rw [g1,g2]
   dsimp only
   rw [he]
   split
   ·exact h
   ·refine ES.pass n _ _ (fun x hx=>hk x (List.mem_filter.1 hx).1) (by show 0≤(s.base+1)%65536∧(s.base+1)%65536<65536;omega) hs ?_
    have hf:=h.form
    refine ⟨?_,.inr ?_,?_⟩
    ·unfold passStep
     rw [show q.body=p.body from hpq.body,show q.kind=p.kind from hpq.kind]
     generalize t.base=tb at*
     generalize t.kept=tk at*
     subst hf
     rfl
    ·show (t.base+1)%65536=((s.base+1)%65536+by_)%65536
     rw [hbs];omega
    ·refine h.kept.filter fun a b ha hb' hr=> ?_
     have h1:=hr.1
     have ha:=hk a ha
     by_cases hc:a.1=(s.base+1)%65536
     ·rw [show (a.1 != (s.base+1)%65536)=false from by simp [hc]]
      rw [show (b.1 != (t.base+1)%65536)=false from by
       rw [h1,hbs,hc]
       simp only [bne_eq_false_iff_eq]
       omega]
     ·rw [show (a.1 != (s.base+1)%65536)=true from by simpa using hc]
      rw [show (b.1 != (t.base+1)%65536)=true from by
       rw [h1,hbs]
       simp only [bne_iff_ne,ne_eq]
       omega]
theorem ES.keep {d by_:Int} {s t:E} (h:ES d by_ s t) {p q:Sg} (hpq:SgS by_ p q) (hk:KeyOk s) (hb:0≤s.base∧s.base<65536) (hp:0≤p.seq∧p.seq<65536) (hs:s.state≠0∧s.state≠1∧s.state≠5):ES d by_ (keepR s p) (keepR t q):=by
 have hbs:t.base=(s.base+by_)%65536:=by
  rcases h.base with ⟨_,_,g⟩|g
  ·omega
  ·exact g
 have hf:=h.form
 have he:t.ended=s.ended∧t.state=s.state∧t.doubles=s.doubles:=by rw [hf];exact ⟨rfl,rfl,rfl⟩
 have hD:keepD t q=keepD s p:=by
  unfold keepD
  rw [hpq.seq,hbs];omega
 have hiso:(kept? t.kept q.seq).isSome=(kept? s.kept p.seq).isSome:=by
  rcases kept_ES h.kept hk (n:=p.seq) (n2:=q.seq) hp hpq.seq with ⟨g1,g2⟩|⟨_,_,g1,g2,_⟩<;> rw [g1,g2]
  rfl
 have hold:keepOld t q↔keepOld s p:=by unfold keepOld;rw [hD,hiso]
 have hno:keepNo t q↔keepNo s p:=by unfold keepNo;rw [hD,he.1,he.2.1,hpq.body,h.space]
 unfold keepR
 by_cases c1:keepOld s p
 ·rw [if_pos c1,if_pos (hold.2 c1)]
  have:=h.put (fun x=>{x with answer:=true,doubles:=IntKind.i64.wrap (x.doubles+1)}) (fun _=>rfl) (by rw [hf];exact ⟨rfl,rfl,rfl,rfl,rfl,rfl,rfl,rfl,rfl,rfl,rfl,rfl,rfl,rfl⟩) (.inl rfl)
  exact this
 ·rw [if_neg c1,if_neg (fun g=>c1 (hold.1 g))]
  by_cases c2:keepNo s p
  ·rw [if_pos c2,if_pos (hno.2 c2)]
   have:=h.put (fun x=>{x with answer:=true}) (fun _=>rfl) (by rw [hf];exact ⟨rfl,rfl,rfl,rfl,rfl,rfl,rfl,rfl,rfl,rfl,rfl,rfl,rfl,rfl⟩) (.inl rfl)
   exact this
  ·rw [if_neg c2,if_neg (fun g=>c2 (hno.1 g))]
   have h2:ES d by_ {s with answer:=true,kept:=s.kept++[(p.seq,p)]} {t with answer:=true,kept:=t.kept++[(q.seq,q)]}:=by
    refine ⟨?_,.inr hbs,h.kept.append (.cons ⟨hpq.seq,hpq⟩ .nil)⟩
    generalize t.kept=tk at*
    generalize t.base=tb at*
    subst hf
    rfl
   unfold passR
   have hl:({t with answer:=true,kept:=t.kept++[(q.seq,q)]}:E).kept.length=({s with answer:=true,kept:=s.kept++[(p.seq,p)]}:E).kept.length:=by
    have:=h.kept.len
    simp [this]
   rw [hl]
   refine ES.pass _ _ _ (fun x hx=> ?_) hb hs h2
   rcases List.mem_append.1 hx with hx|hx
   ·exact hk x hx
   ·rw [List.mem_singleton.1 hx];exact hp
theorem KeyOk.ack {s:E} (h:KeyOk s) (ack:Int) (marks:List UInt8):KeyOk (ackR s ack marks):=by
 obtain ⟨fl,o,dd,a,he,_⟩:=ackR_ackS s ack marks
 unfold KeyOk
 rw [he]
 exact h
theorem ES.carry {d by_:Int} {s t:E} (h:ES d by_ s t) (hd:ByOk d by_) {p q:Sg} (hpq:SgS by_ p q) (hk:KeyOk s) (hb:0≤s.base∧s.base<65536) (hp:0≤p.seq∧p.seq<65536) (hkd:p.kind=2∨p.kind=4):ES d by_ (carryR s p) (carryR t q):=by
 have hf:=h.form
 have hst:t.state=s.state:=by rw [hf]
 unfold carryR
 by_cases c1:s.state=0
 ·rw [if_pos c1,if_pos (hst.trans c1)]
  have:=h.put (fun x=>{x with replies:=true}) (fun _=>rfl) (by rw [hf];exact ⟨rfl,rfl,rfl,rfl,rfl,rfl,rfl,rfl,rfl,rfl,rfl,rfl,rfl,rfl⟩) (.inl rfl)
  exact this
 ·rw [if_neg c1,if_neg (show ¬t.state=0 by rw [hst];exact c1)]
  by_cases c2:s.state=2∨s.state=3∨s.state=4
  ·rw [if_pos c2,if_pos (show t.state=2∨t.state=3∨t.state=4 by rw [hst];exact c2)]
   have h1:=h.put (fun x=>{x with heard:=true}) (fun _=>rfl) (by rw [hf];exact ⟨rfl,rfl,rfl,rfl,rfl,rfl,rfl,rfl,rfl,rfl,rfl,rfl,rfl,rfl⟩) (.inl rfl)
   have h2:=h1.ack hd (hpq.ack (by omega)) p.marks
   rw [hpq.marks]
   have hs2:=ackR_state {s with heard:=true} p.ack p.marks
   refine ES.keep h2 hpq (KeyOk.ack (s:={s with heard:=true}) hk _ _) (by rw [hs2.2];exact hb) hp ?_
   rw [hs2.1]
   show s.state≠0∧s.state≠1∧s.state≠5
   omega
  ·rw [if_neg c2,if_neg (show ¬(t.state=2∨t.state=3∨t.state=4) by rw [hst];exact c2)];exact h
theorem ES.alone {d by_:Int} {s t:E} (h:ES d by_ s t) (hd:ByOk d by_) {p q:Sg} (hpq:SgS by_ p q) (hkd:p.kind=3) (hack:0≤p.ack∧p.ack<65536) (hnum:∀x∈s.flight,0≤x.number∧0≤x.number+d) (hkn:s.state=1→s.kept=[]):ES d by_ (aloneR s p) (aloneR t q):=by
 have hf:=h.form
 have hst:t.state=s.state:=by rw [hf]
 have hqa:=hpq.ack (by omega)
 unfold aloneR
 by_cases c1:s.state=0
 ·rw [if_pos c1,if_pos (hst.trans c1)]
  have:=h.put (fun x=>{x with replies:=true}) (fun _=>rfl) (by rw [hf];exact ⟨rfl,rfl,rfl,rfl,rfl,rfl,rfl,rfl,rfl,rfl,rfl,rfl,rfl,rfl⟩) (.inl rfl)
  exact this
 ·rw [if_neg c1,if_neg (show ¬t.state=0 by rw [hst];exact c1)]
  by_cases c2:s.state=1
  ·rw [if_pos c2,if_pos (hst.trans c2)]
   by_cases hl:s.flight.length=1
   ·obtain ⟨f,hfl⟩:=List.length_eq_one_iff.1 hl
    have hft:t.flight=[shP d f]:=by rw [h.flight,hfl];rfl
    rw [alone1_one hfl,alone1_one hft]
    have hn:=hnum f (by rw [hfl];exact List.mem_cons_self ..)
    unfold aloneUp
    have hiff:q.ack=(shP d f).number.tmod 65536↔p.ack=f.number.tmod 65536:=by
     show q.ack=(f.number+d).tmod 65536↔_
     unfold ByOk at hd
     rw [hqa,Int.tmod_eq_emod_of_nonneg hn.1,Int.tmod_eq_emod_of_nonneg hn.2]
     omega
    by_cases c3:p.ack=f.number.tmod 65536
    ·rw [if_pos c3,if_pos (hiff.2 c3)]
     have h1:ES d by_ {s with state:=2,base:=(p.seq - 1)%65536} {t with state:=2,base:=(q.seq - 1)%65536}:=by
      refine ⟨?_,.inr ?_,h.kept⟩
      ·generalize t.kept=tk at*
       generalize t.base=tb at*
       subst hf
       rfl
      ·show (q.seq - 1)%65536=((p.seq - 1)%65536+by_)%65536
       rw [hpq.seq];omega
     have h2:=h1.ack hd hqa p.marks
     rw [hpq.marks]
     unfold ansS
     have hf2:=h2.form
     have h3:=h2.put (fun x=>{x with answer:=true}) (fun _=>rfl) (by rw [hf2];exact ⟨rfl,rfl,rfl,rfl,rfl,rfl,rfl,rfl,rfl,rfl,rfl,rfl,rfl,rfl⟩) (.inl rfl)
     exact h3
    ·rw [if_neg c3,if_neg (fun g=>c3 (hiff.1 g))];exact h
   ·rw [alone1_no hl,alone1_no (by rw [h.flight,List.length_map];exact hl)];exact h
  ·rw [if_neg c2,if_neg (show ¬t.state=1 by rw [hst];exact c2)]
   by_cases c3:s.state=2∨s.state=3∨s.state=4
   ·rw [if_pos c3,if_pos (show t.state=2∨t.state=3∨t.state=4 by rw [hst];exact c3),hpq.marks]
    have h1:=h.put (fun x=>{x with heard:=true}) (fun _=>rfl) (by rw [hf];exact ⟨rfl,rfl,rfl,rfl,rfl,rfl,rfl,rfl,rfl,rfl,rfl,rfl,rfl,rfl⟩) (.inl rfl)
    exact h1.ack hd hqa p.marks
   ·rw [if_neg c3,if_neg (show ¬(t.state=2∨t.state=3∨t.state=4) by rw [hst];exact c3)];exact h
structure Bes (d:Int) (s:E):Prop where
 key:KeyOk s
 base:0≤s.base∧s.base<65536
 num:∀x∈s.flight,0≤x.number∧0≤x.number+d
 low:s.state=0∨s.state=1→s.kept=[]
theorem ES.take {d by_:Int} {s t:E} (h:ES d by_ s t) (hd:ByOk d by_) {p q:Sg} (hpq:SgS by_ p q) (hB:Bes d s) (hp:p.ok):ES d by_ (takeOne s p) (takeOne t q):=by
 have hf:=h.form
 have hcs:t.conn=s.conn∧t.state=s.state:=by rw [hf];exact ⟨rfl,rfl⟩
 unfold Sg.ok okP at hp
 obtain ⟨_,_,_,hseq,hack,_⟩:=hp
 unfold takeOne
 have hc0:(q.conn≠t.conn∨t.state=5)↔(p.conn≠s.conn∨s.state=5):=by rw [hcs.1,hcs.2,hpq.conn]
 by_cases c0:p.conn≠s.conn∨s.state=5
 ·rw [if_pos c0,if_pos (hc0.2 c0)];exact h
 ·rw [if_neg c0,if_neg (fun g=>c0 (hc0.1 g))]
  clear hc0
  have hg:({t with late:=q.time,some:=true,window:=if q.kind=5 then t.window else q.window}:E)={t with late:=p.time,some:=true,window:=if p.kind=5 then t.window else p.window}:=by
   rw [hpq.time,hpq.kind,hpq.window]
  rw [hg]
  have h1:=h.put (fun x=>{x with late:=p.time,some:=true,window:=if p.kind=5 then x.window else p.window}) (fun _=>rfl) (by rw [hf];exact ⟨rfl,rfl,rfl,rfl,rfl,rfl,rfl,rfl,rfl,rfl,rfl,rfl,rfl,rfl⟩) (.inl rfl)
  have hB1:Bes d {s with late:=p.time,some:=true,window:=if p.kind=5 then s.window else p.window}:=⟨hB.key,hB.base,hB.num,hB.low⟩
  have h1:ES d by_ {s with late:=p.time,some:=true,window:=if p.kind=5 then s.window else p.window} {t with late:=p.time,some:=true,window:=if p.kind=5 then t.window else p.window}:=h1
  generalize ({s with late:=p.time,some:=true,window:=if p.kind=5 then s.window else p.window}:E)=a at*
  generalize ({t with late:=p.time,some:=true,window:=if p.kind=5 then t.window else p.window}:E)=b at*
  clear hg hf hcs c0 hB h
  have hfa:=h1.form
  have hsb:b.state=a.state∧b.opener=a.opener:=by rw [hfa];exact ⟨rfl,rfl⟩
  have h2:ES d by_ (byKind a p) (byKind b q):=by
   unfold byKind
   rw [hpq.kind]
   by_cases k1:p.kind=1
   ·rw [if_pos k1,if_pos k1]
    unfold openT
    have hc1:(b.opener=true∨b.state=1∨b.state=5)↔(a.opener=true∨a.state=1∨a.state=5):=by rw [hsb.1,hsb.2]
    by_cases c1:a.opener=true∨a.state=1∨a.state=5
    ·rw [if_pos c1,if_pos (hc1.2 c1)];exact h1
    ·rw [if_neg c1,if_neg (fun g=>c1 (hc1.1 g))]
     by_cases c2:a.state=0
     ·rw [if_pos c2,if_pos (hsb.1.trans c2)]
      refine ⟨?_,.inr hpq.seq,h1.kept⟩
      generalize b.kept=tk at*
      generalize b.base=tb at*
      subst hfa
      rfl
     ·rw [if_neg c2,if_neg (show ¬b.state=0 by rw [hsb.1];exact c2)]
      have:=h1.put (fun x=>{x with answer:=true}) (fun _=>rfl) (by rw [hfa];exact ⟨rfl,rfl,rfl,rfl,rfl,rfl,rfl,rfl,rfl,rfl,rfl,rfl,rfl,rfl⟩) (.inl rfl)
      exact this
   ·rw [if_neg k1,if_neg k1]
    by_cases k2:p.kind=2
    ·rw [if_pos k2,if_pos k2]
     exact h1.carry hd hpq hB1.key hB1.base hseq (.inl k2)
    ·rw [if_neg k2,if_neg k2]
     by_cases k3:p.kind=3
     ·rw [if_pos k3,if_pos k3]
      exact h1.alone hd hpq k3 hack hB1.num fun g=>hB1.low (.inr g)
     ·rw [if_neg k3,if_neg k3]
      by_cases k4:p.kind=4
      ·rw [if_pos k4,if_pos k4]
       exact h1.carry hd hpq hB1.key hB1.base hseq (.inr k4)
      ·rw [if_neg k4,if_neg k4]
       unfold dropT
       by_cases c1:a.state≠0∧a.state≠4
       ·rw [if_pos c1,if_pos (show b.state≠0∧b.state≠4 by rw [hsb.1];exact c1)]
        have:=h1.put (fun x=>{x with state:=5,replies:=false}) (fun _=>rfl) (by rw [hfa];exact ⟨rfl,rfl,rfl,rfl,rfl,rfl,rfl,rfl,rfl,rfl,rfl,rfl,rfl,rfl⟩) (.inr (.inl rfl))
        exact this
       ·rw [if_neg c1,if_neg (show ¬(b.state≠0∧b.state≠4) by rw [hsb.1];exact c1)];exact h1
  have hf2:=h2.form
  generalize byKind a p=a2 at*
  generalize byKind b q=b2 at*
  have he:b2.state=a2.state∧b2.ended=a2.ended∧b2.done=a2.done:=by rw [hf2];exact ⟨rfl,rfl,rfl⟩
  unfold closeT
  have hc1:(b2.state=3∧b2.ended=true∧b2.done=true)↔(a2.state=3∧a2.ended=true∧a2.done=true):=by rw [he.1,he.2.1,he.2.2]
  by_cases c1:a2.state=3∧a2.ended=true∧a2.done=true
  ·rw [if_pos c1,if_pos (hc1.2 c1)]
   have:=h2.put (fun x=>{x with state:=4}) (fun _=>rfl) (by rw [hf2];exact ⟨rfl,rfl,rfl,rfl,rfl,rfl,rfl,rfl,rfl,rfl,rfl,rfl,rfl,rfl⟩) (.inr (.inr (by omega)))
   exact this
  ·rw [if_neg c1,if_neg (fun g=>c1 (hc1.1 g))];exact h2
end Go.Proofs.Ytdgmcckfdgnicaa
