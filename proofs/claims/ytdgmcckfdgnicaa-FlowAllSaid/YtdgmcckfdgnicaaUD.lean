/-
 Marks do not depend on the order;a packet as it goes now.
-/
import Derived.Test.YtdgmcckfdgnicaaUCM
import Derived.Test.YtdgmcckfdgnicaaAwC
set_option linter.unusedVariables false
set_option linter.unusedSimpArgs false
set_option maxRecDepth 20000
set_option maxHeartbeats 8000000
namespace Go.Proofs.Ytdgmcckfdgnicaa
open Go Go.Aw Go.Proofs
theorem orOf {a b:Nat} (ha:a<256) (hb:b<256):(UInt8.ofNat (a ||| b)).toNat=a ||| b:=toNat_ofNat8 (Nat.or_lt_two_pow (n:=8) ha hb)
theorem setB_comm (c:List UInt8) (i j:Nat):setB (setB c i) j=setB (setB c j) i:=by
 have hi:2 ^ (i%8)<256:=Nat.pow_lt_pow_right (n:=8) (by omega) (by omega)
 have hj:2 ^ (j%8)<256:=Nat.pow_lt_pow_right (n:=8) (by omega) (by omega)
 by_cases h:i / 8=j / 8
 ·unfold setB
  rw [h]
  by_cases hl:j / 8<c.length
  ·have g:∀x,(c.set (j / 8) x).getD (j / 8) 0=x:=fun x=>by
    rw [List.getD_eq_getElem?_getD,List.getElem?_set_self hl];rfl
   rw [g,g,List.set_set,List.set_set]
   have hx:=UInt8.toNat_lt (c.getD (j / 8) 0)
   rw [orOf hx hi,orOf hx hj]
   congr 2
   rw [Nat.or_assoc,Nat.or_comm (2 ^ (i%8)),←Nat.or_assoc]
  ·have g:∀x,c.set (j / 8) x=c:=fun x=>List.set_eq_of_length_le (by omega)
   simp only [g]
 ·unfold setB
  have g:∀(x:UInt8) (a b:Nat),a≠b→(c.set a x).getD b 0=c.getD b 0:=fun x a b hab=>by
   rw [List.getD_eq_getElem?_getD,List.getElem?_set_ne hab,←List.getD_eq_getElem?_getD]
  rw [g _ _ _ h,g _ _ _ (fun e=>h e.symm)]
  exact List.set_comm _ _ h
theorem bytes4_perm {l l':List Nat} (h:l.Perm l'):bytes4 l=bytes4 l':=by
 unfold bytes4
 exact h.foldl_eq' (fun x _ y _ z=>setB_comm z x y) _
theorem markB_perm {l l':List Nat} (h:l.Perm l'):markB (lowF l)=markB (lowF l'):=by
 unfold markB
 have:=bytes4_perm (h.filter (· <32))
 unfold lowF
 rw [this]
def farR (base:Int) (l:List (Int×Sg)):List Nat:=l.map fun x=>((x.1 - base)%65536 - 2).toNat
def madeR (s:E) (kind number:Int) (body:List UInt8):Sg:=
 ⟨kind,s.conn,number%65536,s.base,spaceR s,markB (lowF (farR s.base s.kept)),body,s.now.tmod 4294967296,if s.some then IntKind.i64.wrap (s.now - s.late)%4294967296 else 0⟩
theorem tm16 (x:Int):(IntKind.i64.wrap (x.tmod 65536+65536)).tmod 65536=x%65536:=by
 have h4:=tmod_c x
 have h3:IntKind.i64.wrap (x.tmod 65536+65536)=x.tmod 65536+65536:=IntWalk.i64_in _ (by omega)
 rw [h3]
 have h5:=tmod_c (x.tmod 65536+65536)
 omega
theorem tmod_w (y:Int):y.tmod 4294967296=y%4294967296∧0≤y∨y.tmod 4294967296=y%4294967296∧y%4294967296=0∨y<0∧y.tmod 4294967296=y%4294967296 - 4294967296:=by
 have h:=Int.tmod_eq_emod (a:=y) (b:=4294967296)
 split at h
 ·rename_i h0
  rcases h0 with h0|h0
  ·left;exact ⟨by simpa using h,h0⟩
  ·right;left;exact ⟨by simpa using h,Int.emod_eq_zero_of_dvd h0⟩
 ·rename_i h0
  right;right
  refine ⟨by omega,by rw [h];rfl⟩
theorem tm32 (x:Int):(IntKind.i64.wrap (x.tmod 4294967296+4294967296)).tmod 4294967296=x%4294967296:=by
 have h4:=tmod_w x
 have h3:IntKind.i64.wrap (x.tmod 4294967296+4294967296)=x.tmod 4294967296+4294967296:=IntWalk.i64_in _ (by omega)
 rw [h3]
 have h5:=tmod_w (x.tmod 4294967296+4294967296)
 omega
def FarOk (s:E):Prop:=∀x∈s.kept,2≤(x.1 - s.base)%65536
theorem made {H:AHeap} {e:Nat} {s:E} {q:Q} (h:EndI H e s q) (hr:0≤s.room∧s.room≤1099511627776) (hl:s.ready.length<1099511627776) (hk:s.kept.length<1099511627776) (hb:∀x∈s.kept,x.2.body.length≤100000) (hf:FarOk s) (kind number:Int) (body:List UInt8):
  ARet Try.prog 41 [ptr e,.int .i64 kind,.int .i64 number,.string (bs body)] H (madeR s kind number body).v H:=by
 refine AC.forget (show plain (madeR s kind number body).v=true from rfl) ?_
 have hc:=h.cell
 have hcl:=lt_of_get hc
 have hsp:=fun X=>space (h.more X) hr hl hk hb
 simp only [endC] at hc
 have hm:=h.map
 have hml:=lt_of_get hm
 obtain ⟨z1,z2⟩:=zip_snd h.mis.len
 obtain ⟨late,hlate⟩:∃l:Int,l=if s.some then IntKind.i64.wrap (s.now - s.late)%4294967296 else 0:=⟨_,rfl⟩
 unfold madeR
 rw [← hlate]
 refine AC.enter Try.func41 rfl (by kernel_rfl) 79 rfl [.cell 8 44] rfl (by simp) fun hsc B=> ?_
 repeat first|refine kw0 ?_|exact kwz
 apply AWP.regionX [23,24] [(0,1),(0,1),(0,1),(0,1),(0,1),(0,1),(0,1),(0,1),(0,1),(0,1),(0,1),(0,1),(0,1),(0,1),(0,1),(0,1),(0,1),(0,1),(0,1),(0,1),(0,1),(0,1),(0,1),(0,0),(1,0)] [12,13,14,15,16,17,18,19,20,21,22,23,24,25,26,27,28,29,30,31,32,33,34,9] [_,_] [(12,_),(13,_),(14,_),(15,_),(16,_),(17,_),(18,_),(19,_),(20,_),(21,_),(22,_),(23,_),(24,_),(25,_),(26,_),(27,_),(28,_),(29,_),(30,_),(31,_),(32,_),(33,_),(34,_),(9,_)]
 ·kernel_rfl
 ·kernel_rfl
 ·kernel_rfl
 ·kernel_rfl
 ·rfl
 ·simp only [eachB,runB]
  repeat' with_reducible refine And.intro ?_ ?_
  iterate 2 all_goals try ((repeat' first|with_reducible refine And.intro ?_ ?_|with_reducible refine (hsp _).use ?_|refine kx4 hc hcl @hgetl @tm16 ?_|exact kwy|exact rfl);done)
 repeat first|with_reducible refine AWP.seqJ (x:= .seq (.region 2 _ _) _) ⟨[(0,ptr e),(8,ptr H.length),(9,ptr (H.length+1))],[],H++ [.cells [.int .i64 0,.int .i64 0,.int .i64 0,.int .i64 0,.int .i64 0,.string (bs []),.string (bs []),.int .i64 0,.int .i64 0] ⟨44,0,true,0,none⟩,.cells [.int .i64 kind,.int .i64 s.conn,.int .i64 (number%65536),.int .i64 s.base,.int .i64 (spaceR s),.string (bs []),.string (bs body),.int .i64 (s.now.tmod 4294967296),.int .i64 late] ⟨44,0,true,0,none⟩]⟩ ?_ ?_|refine kw0 ?_|exact kwz
 ·cases hsm:s.some with
  | true=>
   rw [hsm,if_pos rfl] at hlate
   subst hlate
   repeat first|refine kw4 hc hcl @hgetl hsm ?_|exact kwz
   apply AWP.regionX [14] [(0,0),(0,0),(0,0),(0,0),(0,0),(0,0),(0,0),(0,0),(0,0),(0,0),(0,0),(0,0),(0,0),(0,0),(0,0)] [40,41,42,43,44,45,46,47,48,49,50,51,52,53] [_] [(40,_),(41,_),(42,_),(43,_),(44,_),(45,_),(46,_),(47,_),(48,_),(49,_),(50,_),(51,_),(52,_),(53,_)]
   ·kernel_rfl
   ·kernel_rfl
   ·kernel_rfl
   ·kernel_rfl
   ·rfl
   ·simp only [eachB,runB]
    repeat' with_reducible refine And.intro ?_ ?_
    iterate 2 all_goals try ((repeat' first|with_reducible refine And.intro ?_ ?_|refine kx4 hc hcl @hgetl @tm32 ?_|exact kwy|exact rfl);done)
   repeat first|refine kw0 ?_|exact kwz
   exact Weak.env (by simp [envIn,lk_cons,wth_some])
  |false=>
   rw [hsm,if_neg (by simp)] at hlate
   subst hlate
   repeat first|refine kw4 hc hcl @hgetl hsm ?_|exact kwz
   exact Weak.env (by simp [envIn,lk_cons,wth_some])
 clear hlate
 repeat first|refine kw5 hc hcl @hgetl hm hml ?_|exact kwz
 refine AWP.loopP (fun s2:List VEnt×AHeap×Value=>⟨[(0,ptr e),(8,ptr H.length),(9,ptr (H.length+1)),(10,s2.2.2),(59,ptr (H.length+2))],[],s2.2.1⟩) (fun s2=>Vis s.kept q.st s2.1∧Frm [] H s2.2.1∧s2.2.1[H.length]? =some (.cells [.int .i64 0,.int .i64 0,.int .i64 0,.int .i64 0,.int .i64 0,.string (bs []),.string (bs []),.int .i64 0,.int .i64 0] ⟨44,0,true,0,none⟩)∧
  s2.2.1[H.length+1]? =some (.cells [.int .i64 kind,.int .i64 s.conn,.int .i64 (number%65536),.int .i64 s.base,.int .i64 (spaceR s),.string (bs []),.string (bs body),.int .i64 (s.now.tmod 4294967296),.int .i64 late] ⟨44,0,true,0,none⟩)∧
  s2.2.1[H.length+2]? =some (.iter (.map (some q.m)) q.ck (s2.1.map (·.2)) q.ck)∧∃S,(∀ j∈S,H.length+3≤j)∧OwnL s2.2.1 3 1 s2.1.length (farC (farR s.base (s2.1.map (·.1)))) s2.2.2 S) (fun s2=>s.kept.length - s2.1.length) ([],H++ [.cells [.int .i64 0,.int .i64 0,.int .i64 0,.int .i64 0,.int .i64 0,.string (bs []),.string (bs []),.int .i64 0,.int .i64 0] ⟨44,0,true,0,none⟩,.cells [.int .i64 kind,.int .i64 s.conn,.int .i64 (number%65536),.int .i64 s.base,.int .i64 (spaceR s),.string (bs []),.string (bs body),.int .i64 (s.now.tmod 4294967296),.int .i64 late] ⟨44,0,true,0,none⟩,.iter (.map (some q.m)) q.ck [] q.ck],.slice none 0 0) ?_ ⟨Vis.nil _ _,Frm.app,by simp,by simp,by simp,[],by simp,.inl ⟨rfl,rfl,rfl,rfl⟩⟩ ?_
 ·exact Weak.env (by simp [envIn,lk_cons,wth_some])
 rintro ⟨vis,H1,v⟩ ⟨hv,hF,g0,g1,g2,S,hS,hO⟩
 simp only at hv hF g0 g1 g2 hO
 have hc1:=hF.get hc (by simp)
 have hm1:=hF.get hm (by simp)
 have hvl:=hv.len h.mis.len
 repeat first|refine kw2 g2 hm1 ?_|exact kwz
 refine ⟨h.mis.oldE,?_,?_⟩
 ·intro hall
  have hp:=hv.perm h.mis.len h.mis.nodup fun x hx=>hall (entV x) (List.mem_map.2 ⟨x,hx,rfl⟩)
  have hmk:markB (lowF (farR s.base (vis.map (·.1))))=markB (lowF (farR s.base s.kept)):=markB_perm (hp.map _)
  have hmd:=markedG (farR s.base (vis.map (·.1))) (by unfold farR;rw [List.length_map,List.length_map];omega) v H1 hO.rd
  rw [hmk] at hmd
  have s11:∀o,(H1.set (H.length+1) o)[H.length+1]? =some o:=fun o=>List.getElem?_set_self (lt_of_get g1)
  have s10:∀o,(H1.set (H.length+1) o)[H.length]? =H1[H.length]? :=fun o=>List.getElem?_set_ne (by omega)
  have s00:∀o o',((H1.set (H.length+1) o).set H.length o')[H.length]? =some o':=fun o o'=>List.getElem?_set_self (by rw [List.length_set];exact lt_of_get g0)
  repeat first|with_reducible refine hmd.use ?_|refine kw5 g1 g0 s11 s10 s00 ?_|exact kwz
  exact ⟨_,_,.refl _ _ _,rfl,(hF.set (.inr (by omega))).set (.inr (by omega))⟩
 ·intro a ha hn
  obtain ⟨x,hx,rfl⟩:=List.mem_map.1 ha
  have hv2:=hv.snoc hx hn
  have hvl2:=hv2.len h.mis.len
  rw [List.length_append,List.length_singleton] at hvl2
  have hfx:=hf x.1 (by rw [← z2];exact List.mem_map.2 ⟨x,hx,rfl⟩)
  have hfe:=find_ent (by rw [z1];exact h.mis.nodup) hx
  unfold esOf at hm1
  have hcl1:=lt_of_get hc
  have s22:∀o,(H1.set (H.length+2) o)[H.length+2]? =some o:=fun o=>List.getElem?_set_self (lt_of_get g2)
  have s2m:∀o,(H1.set (H.length+2) o)[q.m]? =H1[q.m]? :=fun o=>List.getElem?_set_ne (by omega)
  have s2e:∀o,(H1.set (H.length+2) o)[e]? =H1[e]? :=fun o=>List.getElem?_set_ne (by omega)
  repeat first|with_reducible refine kc ?_|((with_reducible first|refine kr ?_ ?_|refine kt ?_ ?_);exact rfl)|((with_reducible refine kf ?_ ?_);exact rfl)|with_reducible refine (ahead _ _ _).use ?_|simp only [go_sem,sevalprocAttr,reduceCtorEq,g2,hm1,hc1,hfe,entV,Sg.v,Sg.c,sgC,List.getLast?_concat,s22,s2m,s2e]|simp (disch:=omega) only [wz]|with_reducible_and_instances exact finR|((with_reducible refine finR' ?_ ?_)<;> rfl)|((with_reducible refine finD hsc (NRel.of_plain ?_));exact rfl)
  have hfA:Frm [H.length+2] H1 (H1.set (H.length+2) (.iter (.map (some q.m)) q.ck (vis.map (·.2)++[x.2]) q.ck)++ [.cells [.int .i64 ((x.1.1 - s.base)%65536 - 2)] ⟨3,0,true,0,none⟩]):=((Frm.refl _ _).set (.inl (List.mem_singleton.2 rfl))).more
  have hOA:=hO.frm hfA (fun j hj hm=>by have:=hS j hj;rw [List.mem_singleton] at hm;omega)
  refine hOA.append (by decide) (by omega) (by omega) fun H' hl' hg'=> ?_
  have hlA:H'.length=H1.length+1:=by rw [hl'];simp
  have hkeep:∀j o,H1[j]? =some o→j<H.length+2→(H'++[AObj.cells (farC (farR s.base (vis.map (·.1)))++ [.int .i64 ((x.1.1 - s.base)%65536 - 2)]) ⟨3,1,true,0,none⟩])[j]? =some o:=fun j o hj hlt=>by
   have h1:j<H1.length:=lt_of_get hj
   rw [List.getElem?_append_left (by omega),hg' j (fun hm=>by have:=hS j hm;omega),List.getElem?_append_left (by rw [List.length_set];exact h1),List.getElem?_set_ne (by omega)]
   exact hj
  repeat first|refine kw0 ?_|exact kwz
  have hF1:=hF.1
  have hg2l:=lt_of_get g2
  have hF2:Frm [] H (H'++[AObj.cells (farC (farR s.base (vis.map (·.1)))++ [.int .i64 ((x.1.1 - s.base)%65536 - 2)]) ⟨3,1,true,0,none⟩]):=⟨by rw [List.length_append,hlA];omega,fun j hj _=>by
   rw [hkeep j _ ((hF.2 j hj (by simp)).trans (List.getElem?_eq_getElem hj)) (by omega),List.getElem?_eq_getElem hj]⟩
  refine ⟨(vis++[x],H'++[AObj.cells (farC (farR s.base (vis.map (·.1)))++ [.int .i64 ((x.1.1 - s.base)%65536 - 2)]) ⟨3,1,true,0,none⟩],.slice (some ⟨H'.length,0,none⟩) (vis.length+1) (vis.length+1)),Weak.env (by simp [envIn,lk_cons,wth_some,hlA]),hv2,hF2,hkeep _ _ g0 (by omega),hkeep _ _ g1 (by omega),?_,⟨[H'.length],fun j hj=>by rw [List.mem_singleton.1 hj];omega,?_⟩,by simp;omega⟩
  ·rw [List.getElem?_append_left (by have:=lt_of_get g2;omega),hg' _ (fun hm=>by have:=hS _ hm;omega),List.getElem?_append_left (by rw [List.length_set];exact lt_of_get g2),s22]
   simp
  ·have hfr:farC (farR s.base ((vis++[x]).map (·.1)))=farC (farR s.base (vis.map (·.1)))++ [.int .i64 ((x.1.1 - s.base)%65536 - 2)]:=by
    unfold farR farC
    simp only [List.map_append,List.map_cons,List.map_nil,intsC]
    rw [Int.toNat_of_nonneg (by omega)]
   rw [hfr]
   refine .inr ⟨H'.length,0,_,by simp [hl'],hget0 rfl,?_,by rw [List.drop_zero],rfl⟩
   simp [farC_len,farR]
end Go.Proofs.Ytdgmcckfdgnicaa
