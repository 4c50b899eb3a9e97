/-
 Two ends that open (plain): the three rounds.
-/
import Derived.Test.YtdgmcckfdgnicaaUm
set_option linter.unusedVariables false
set_option linter.unusedSimpArgs false
set_option maxRecDepth 20000
namespace Go.Proofs.Ytdgmcckfdgnicaa
open Go Go.Aw Go.Proofs
section
variable (conn first other:Int)
theorem dA0:DueOk (rA0 conn first):=by
 have h1:(rA0 conn first).flight=[]:=rfl
 have h2:(rA0 conn first).waiting=[newP 1 []]:=rfl
 exact smallD (by rw [h1];simp) (by rw [h2];simp) (by rw [h1];simp) (by rw [h2];simp [newP])
theorem dA1:DueOk (rA1 conn first):=by
 have h1:(rA1 conn first).flight=[⟨1,first,[],0,1,0,false,false⟩]:=rfl
 have h2:(rA1 conn first).waiting=[]:=rfl
 exact smallD (by rw [h1];simp) (by rw [h2];simp) (by rw [h1];simp) (by rw [h2];simp)
theorem dEmpty {s:E} (h1:s.flight=[]) (h2:s.waiting=[]):DueOk s:=smallD (by rw [h1];simp) (by rw [h2];simp) (by rw [h1];simp) (by rw [h2];simp)
theorem fEmpty {s:E} (h1:s.flight=[]) (h2:s.waiting=[]):s.flight.length+s.waiting.length<100000:=by rw [h1,h2];simp
theorem uEmpty {s:E} (h1:s.flight=[]):¬((underR s).2>4200∧(underR s).1>1):=by
 rintro ⟨_,h⟩
 unfold underR at h
 rw [h1] at h
 split at h
 ·simp at h
 ·simp [flyN,underN] at h
theorem okS {k sq ak:Int} (hk:1≤k∧k≤5∧k≠2) (hc:0≤conn∧conn<65536) (hs:0≤sq∧sq<65536) (ha:0≤ak∧ak<65536):(⟨k,conn,sq,ak,5000,[],[],0,0⟩:Sg).ok:=by
 unfold Sg.ok okP
 simp
 omega
theorem rd1 (hc:0≤conn∧conn<65536) (hf:0≤first∧first<65536) (ho:0≤other∧other<65536):Round 0 (mkS conn other (rA0 conn first) (rB0 conn other) 0) (mkS conn other (rA1 conn first) (rB1 conn first other) 1) 4200 100 10:=
 roundA conn other (out:=[sg1 conn first]) (by decide) (st1 conn first) (st2 conn first other) (st11 conn first other).1 rfl (by simp) (dA0 conn first) (smallM rfl rfl rfl) (by show (0:Nat)<_;omega) (by show 0+1<_;omega) (fun p hp=>by rw [List.mem_singleton.1 hp];exact okS conn (by omega) hc (by omega) (by omega)) (dA1 conn first)
  (by
   rintro ⟨_,h⟩
   rw [show (underR (rA1 conn first)).1=1 from by kernel_rfl] at h
   omega)
  (smallT (by show 0≤1;omega) (by show -1≤other - 1∧other - 1<65536;omega) (by show other≤65536;omega) (by show (0:Int)≤0∧(0:Int)<65536;omega) rfl rfl rfl) rfl
theorem rd2 (hc:0≤conn∧conn<65536) (hf:0≤first∧first<65536) (ho:0≤other∧other<65536):Round 1 (mkS conn other (rA1 conn first) (rB1 conn first other) 1) (mkS conn other (rA2 conn first other) (rB2 conn first other) 2) 4200 100 10:=
 roundB conn other (out:=[sg2 conn first other]) (by decide) (st3 conn first other) (st4 conn first other hf ho) (st11 conn first other).2.1 rfl (by simp) (dEmpty rfl rfl) (smallM rfl rfl rfl) (by show (0:Nat)<_;omega) (fEmpty rfl rfl) (fun p hp=>by rw [List.mem_singleton.1 hp];exact okS conn (by omega) hc (by omega) (by omega)) (dEmpty rfl rfl)
  (uEmpty rfl) (smallT (by show 1≤1;omega) (by show -1≤first - 1∧first - 1<65536;omega) (by show IntKind.i64.wrap (first+1)≤65536;rw [IntWalk.i64_in _ (by omega)];omega) (by show (0:Int)≤0∧(0:Int)<65536;omega) rfl rfl rfl) rfl
theorem rd3 (hc:0≤conn∧conn<65536) (hf:0≤first∧first<65536) (ho:0≤other∧other<65536):Round 0 (mkS conn other (rA2 conn first other) (rB2 conn first other) 2) (mkS conn other (rA3 conn first other) (rB3 conn first other) 3) 4200 100 10:=
 roundA conn other (out:=[sg3 conn first other]) (by decide) (st5 conn first other) (st6 conn first other ho) (st11 conn first other).2.2.1 rfl (by simp) (dEmpty rfl rfl) (smallM rfl rfl rfl) (by show (0:Nat)<_;omega) (fEmpty rfl rfl) (fun p hp=>by rw [List.mem_singleton.1 hp];exact okS conn (by omega) hc (by omega) (by omega)) (dEmpty rfl rfl)
  (uEmpty rfl) (smallT (by show 0≤1;omega) (by show -1≤other - 1∧other - 1<65536;omega) (by show other≤65536;omega) (by show 0≤first%65536∧first%65536<65536;omega) rfl rfl rfl) rfl
theorem rd4 (hc:0≤conn∧conn<65536) (hf:0≤first∧first<65536) (ho:0≤other∧other<65536):Round 1 (mkS conn other (rA3 conn first other) (rB3 conn first other) 3) (mkS conn other (rA3 conn first other) (rB3 conn first other) 3) 4200 100 10:=
 roundB conn other (out:=[]) (by decide) (st7 conn first other) (st9 conn first other) (st11 conn first other).2.2.2 rfl (by simp) (dEmpty rfl rfl) (smallM rfl rfl rfl) (by show (0:Nat)<_;omega) (fEmpty rfl rfl) (by simp) (dEmpty rfl rfl)
  (uEmpty rfl) (smallT (by show 0≤1;omega) (by show -1≤first∧first<65536;omega) (by show first+1≤65536;omega) (by show 0≤(other - 1)%65536∧(other - 1)%65536<65536;omega) rfl rfl rfl) rfl
theorem rd5 (hc:0≤conn∧conn<65536) (hf:0≤first∧first<65536) (ho:0≤other∧other<65536):Round 0 (mkS conn other (rA3 conn first other) (rB3 conn first other) 3) (mkS conn other (rA3 conn first other) (rB3 conn first other) 3) 4200 100 10:=
 roundA conn other (out:=[]) (by decide) (st8 conn first other) (st10 conn first other) (st11 conn first other).2.2.1 rfl (by simp) (dEmpty rfl rfl) (smallM rfl rfl rfl) (by show (0:Nat)<_;omega) (fEmpty rfl rfl) (by simp) (dEmpty rfl rfl)
  (uEmpty rfl) (smallT (by show 0≤1;omega) (by show -1≤other - 1∧other - 1<65536;omega) (by show other≤65536;omega) (by show 0≤first%65536∧first%65536<65536;omega) rfl rfl rfl) rfl
end
end Go.Proofs.Ytdgmcckfdgnicaa
