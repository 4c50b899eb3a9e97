/-
  Forms that a walk asks for.
-/
import Derived.Test.YtdeoaadkngiilaaDoorAw18
set_option linter.unusedVariables false
set_option linter.unusedSimpArgs false
namespace Go.Aw
section
variable {P : Program} {op : BinOp} {t : TypeId} {x y : Operand} {K : Value → Prop}
theorem binW_int {k j : IntKind} {m n : Int} : binW P op t x y (.int k m) (.int j n) K = intW op k m j n K := rfl
theorem binW_str {a b : ByteArray} : binW P op t x y (.string a) (.string b) K = strW op a b K := rfl
theorem binW_bool_eql {a b : Bool} : binW P .eql t x y (.bool a) (.bool b) K = wth (eqV P 20 t (.bool a) (.bool b)) fun r => K (.bool r) := by simp [binW, guardW]
theorem binW_bool_neq {a b : Bool} : binW P .neq t x y (.bool a) (.bool b) K = wth (eqV P 20 t (.bool a) (.bool b)) fun r => K (.bool (!r)) := by simp [binW, guardW]
theorem binW_agg_eql {a b : Array Value} : binW P .eql t x y (.agg a) (.agg b) K = (P.eqGuardType P.depth t = false ∧ wth (eqV P 20 t (.agg a) (.agg b)) fun r => K (.bool r)) := by simp [binW, guardW]
theorem binW_agg_neq {a b : Array Value} : binW P .neq t x y (.agg a) (.agg b) K = (P.eqGuardType P.depth t = false ∧ wth (eqV P 20 t (.agg a) (.agg b)) fun r => K (.bool (!r))) := by simp [binW, guardW]
theorem binW_slice_eql {a : Option Addr} {n m : Nat} {b : Option Addr} {n' m' : Nat} : binW P .eql t x y (.slice a n m) (.slice b n' m') K = wth (eqV P 20 t (.slice a n m) (.slice b n' m')) fun r => K (.bool r) := by simp [binW, guardW]
theorem binW_slice_neq {a : Option Addr} {n m : Nat} {b : Option Addr} {n' m' : Nat} : binW P .neq t x y (.slice a n m) (.slice b n' m') K = wth (eqV P 20 t (.slice a n m) (.slice b n' m')) fun r => K (.bool (!r)) := by simp [binW, guardW]
theorem eqV_bool {a b : Bool} (h : P.underlying t = some .bool) : eqV P 20 t (.bool a) (.bool b) = some (a == b) := by unfold eqV; simp only [h]
theorem eqV_int {a b : Int} {k j : IntKind} (h : P.underlying t = some (.int j)) : eqV P 20 t (.int k a) (.int k b) = some (a == b) := by unfold eqV; simp only [h]; simp
theorem eqV_sn {a : Addr} {n m n' m' : Nat} {e : TypeId} (h : P.underlying t = some (.slice e)) : eqV P 20 t (.slice (some a) n m) (.slice none n' m') = some false := by unfold eqV; simp only [h]
theorem eqV_nn {n m n' m' : Nat} {e : TypeId} (h : P.underlying t = some (.slice e)) : eqV P 20 t (.slice none n m) (.slice none n' m') = some true := by unfold eqV; simp only [h]; rfl
theorem eqV_ns {a : Addr} {n m n' m' : Nat} {e : TypeId} (h : P.underlying t = some (.slice e)) : eqV P 20 t (.slice none n' m') (.slice (some a) n m) = some false := by unfold eqV; simp only [h]; rfl
theorem unW_not {b : Bool} : unW .not (.bool b) K = K (.bool (!b)) := rfl
theorem unW_xor {k : IntKind} {n : Int} : unW .xor (.int k n) K = wth (bitV .xor k (if k.signed then -1 else k.max) n) fun r => K (.int k r) := rfl
theorem unW_neg {k : IntKind} {n : Int} : unW .neg (.int k n) K = K (.int k (k.wrap (0 - n))) := rfl
end
/-! ### Bits -/
theorem bits_nat (n x : Nat) (h : x < 2 ^ n) : (BitVec.ofInt n (x : Int)).toNat = x := by
  rw [BitVec.ofInt_natCast, BitVec.toNat_ofNat, Nat.mod_eq_of_lt h]
theorem bw8_and (x y : Nat) (hx : x < 256) (hy : y < 256) : IntKind.u8.wrap ((BitVec.ofInt IntKind.u8.bits (x : Int) &&& BitVec.ofInt IntKind.u8.bits (y : Int)).toNat : Int) = ((x &&& y : Nat) : Int) := by
  have h1 := bits_nat 8 x hx
  have h2 := bits_nat 8 y hy
  rw [BitVec.toNat_and]
  show IntKind.u8.wrap (((BitVec.ofInt 8 (x : Int)).toNat &&& (BitVec.ofInt 8 (y : Int)).toNat : Nat) : Int) = _
  rw [h1, h2, wu8]
  have := Nat.and_lt_two_pow x (n := 8) hy
  omega
theorem bw8_or (x y : Nat) (hx : x < 256) (hy : y < 256) : IntKind.u8.wrap ((BitVec.ofInt IntKind.u8.bits (x : Int) ||| BitVec.ofInt IntKind.u8.bits (y : Int)).toNat : Int) = ((x ||| y : Nat) : Int) := by
  have h1 := bits_nat 8 x hx
  have h2 := bits_nat 8 y hy
  rw [BitVec.toNat_or]
  show IntKind.u8.wrap (((BitVec.ofInt 8 (x : Int)).toNat ||| (BitVec.ofInt 8 (y : Int)).toNat : Nat) : Int) = _
  rw [h1, h2, wu8]
  have := Nat.or_lt_two_pow (n := 8) hx hy
  omega
theorem bw8_xor (x y : Nat) (hx : x < 256) (hy : y < 256) : IntKind.u8.wrap ((BitVec.ofInt IntKind.u8.bits (x : Int) ^^^ BitVec.ofInt IntKind.u8.bits (y : Int)).toNat : Int) = ((x ^^^ y : Nat) : Int) := by
  have h1 := bits_nat 8 x hx
  have h2 := bits_nat 8 y hy
  rw [BitVec.toNat_xor]
  show IntKind.u8.wrap (((BitVec.ofInt 8 (x : Int)).toNat ^^^ (BitVec.ofInt 8 (y : Int)).toNat : Nat) : Int) = _
  rw [h1, h2, wu8]
  have := Nat.xor_lt_two_pow (n := 8) hx hy
  omega
theorem bw64_xor (x y : Nat) (hx : x < 18446744073709551616) (hy : y < 18446744073709551616) : IntKind.u64.wrap ((BitVec.ofInt IntKind.u64.bits (x : Int) ^^^ BitVec.ofInt IntKind.u64.bits (y : Int)).toNat : Int) = ((x ^^^ y : Nat) : Int) := by
  have h1 := bits_nat 64 x hx
  have h2 := bits_nat 64 y hy
  rw [BitVec.toNat_xor]
  show IntKind.u64.wrap (((BitVec.ofInt 64 (x : Int)).toNat ^^^ (BitVec.ofInt 64 (y : Int)).toNat : Nat) : Int) = _
  rw [h1, h2, wu64]
  have := Nat.xor_lt_two_pow (n := 64) hx hy
  omega
theorem bw64_and (x y : Nat) (hx : x < 18446744073709551616) (hy : y < 18446744073709551616) : IntKind.u64.wrap ((BitVec.ofInt IntKind.u64.bits (x : Int) &&& BitVec.ofInt IntKind.u64.bits (y : Int)).toNat : Int) = ((x &&& y : Nat) : Int) := by
  have h1 := bits_nat 64 x hx
  have h2 := bits_nat 64 y hy
  rw [BitVec.toNat_and]
  show IntKind.u64.wrap (((BitVec.ofInt 64 (x : Int)).toNat &&& (BitVec.ofInt 64 (y : Int)).toNat : Nat) : Int) = _
  rw [h1, h2, wu64]
  have := Nat.and_lt_two_pow x (n := 64) hy
  omega
theorem bw8_and_bit (x : UInt8) (k : Nat) (h : k < 8) : (IntKind.u8.wrap ((BitVec.ofInt IntKind.u8.bits (x.toNat : Int) &&& BitVec.ofInt IntKind.u8.bits ((2 ^ k : Nat) : Int)).toNat : Int) != 0) = x.toNat.testBit k := by
  have hk : 2 ^ k < 256 := Nat.pow_lt_pow_right (by omega) h
  rw [bw8_and _ _ x.toNat_lt hk]
  cases hb : x.toNat.testBit k
  · have : x.toNat &&& 2 ^ k = 0 := by
      apply Nat.eq_of_testBit_eq
      intro i
      rw [Nat.testBit_and, Nat.testBit_two_pow]
      by_cases hi : k = i
      · subst hi; simp [hb]
      · simp [hi]
    rw [this]; rfl
  · have : x.toNat &&& 2 ^ k ≠ 0 := fun h0 => by
      have h1 : (x.toNat &&& 2 ^ k).testBit k = true := by rw [Nat.testBit_and, Nat.testBit_two_pow, hb]; simp
      rw [h0] at h1; simp at h1
    simp; omega

theorem beq_nat (n k : Nat) : ((n : Int) == (k : Int)) = decide (n = k) := by
  rw [Bool.eq_iff_iff]; simp; omega
theorem bne_nat (n k : Nat) : ((n : Int) != (k : Int)) = !decide (n = k) := by
  rw [bne, beq_nat]
theorem beq20 (n : Nat) : ((n : Int) == 20) = decide (n = 20) := beq_nat n 20
theorem tdivN {n d : Nat} : (n : Int).tdiv (d : Int) = ((n / d : Nat) : Int) := rfl
theorem tmodN {n d : Nat} : (n : Int).tmod (d : Int) = ((n % d : Nat) : Int) := rfl
theorem tdiv8 (n : Nat) : (n : Int).tdiv 8 = ((n / 8 : Nat) : Int) := rfl
theorem tmod8 (n : Nat) : (n : Int).tmod 8 = ((n % 8 : Nat) : Int) := rfl
theorem fdiv_pow (m k : Nat) : (m : Int).fdiv (2 ^ k) = ((m / 2 ^ k : Nat) : Int) := by
  rw [Int.fdiv_eq_ediv_of_nonneg _ (by have : (0:Int) < 2 ^ k := Int.pow_pos (by omega); omega)]
  norm_cast
/-- A bit of a byte, shifted down. -/
theorem bw8_shr_bit (x : UInt8) (k : Nat) (h : k < 8) : (IntKind.u8.wrap ((BitVec.ofInt IntKind.u8.bits ((x.toNat : Int).fdiv (2 ^ min k IntKind.u8.bits)) &&& BitVec.ofInt IntKind.u8.bits 1).toNat : Int) == 1) = x.toNat.testBit k := by
  have hm : min k IntKind.u8.bits = k := by show min k 8 = k; omega
  have hx := x.toNat_lt
  have hd : x.toNat / 2 ^ k < 256 := Nat.lt_of_le_of_lt (Nat.div_le_self _ _) hx
  have e := bw8_and (x.toNat / 2 ^ k) 1 hd (by omega)
  rw [Nat.and_one_is_mod] at e
  rw [hm, fdiv_pow]
  have e' : IntKind.u8.wrap ((BitVec.ofInt IntKind.u8.bits ((x.toNat / 2 ^ k : Nat) : Int) &&& BitVec.ofInt IntKind.u8.bits 1).toNat : Int) = ((x.toNat / 2 ^ k % 2 : Nat) : Int) := e
  rw [e', Nat.testBit_eq_decide_div_mod_eq]
  have h2 : x.toNat / 2 ^ k % 2 < 2 := Nat.mod_lt _ (by omega)
  generalize x.toNat / 2 ^ k % 2 = q at h2
  match q, h2 with
  | 0, _ => rfl
  | 1, _ => rfl

theorem AWP.condT {g : Cfg} {Q : AExit → ASt → Prop} {st : ASt} {x : Operand} {y z : Code} (hc : ev st x = some (.bool true)) (h : AWP g y Q st) : AWP g (.cond x y z) Q st := AWP.cond hc (fun _ => h) (fun e => by cases e)
theorem AWP.condF {g : Cfg} {Q : AExit → ASt → Prop} {st : ASt} {x : Operand} {y z : Code} (hc : ev st x = some (.bool false)) (h : AWP g z Q st) : AWP g (.cond x y z) Q st := AWP.cond hc (fun e => by cases e) (fun _ => h)

@[congr] theorem wth_cong {α : Type} {x y : Option α} {f : α → Prop} (h : x = y) : wth x f = wth y f := by rw [h]

def invokeW (P : Program) (r : Value) (n : String) (args : List Value) (st : ASt) (d : Option Tmp) (K : ASt → Prop) (Kp : Value → ASt → Prop) : Prop :=
  match r with
  | .iface t v => wth (tM P t n) fun f => AC P f (v :: args) st.H (resK K Kp st d)
  | _ => False
def pickW (st : ASt) (d : Option Tmp) (u : Value) (a b : Option Value) (K : ASt → Prop) : Prop :=
  match u with
  | .bool t => (t = true → wth a fun v => K (st.put d v)) ∧ (t = false → wth b fun v => K (st.put d v))
  | _ => False
def panW (v : Value) (st : ASt) (Kp : Value → ASt → Prop) : Prop :=
  match v with
  | .iface t u => Kp (.iface t u) st
  | _ => False
def nilW (v : Value) (st : ASt) (d : Option Tmp) (K : ASt → Prop) : Prop :=
  match v with
  | .pointer (some a) => K (st.put d (.pointer (some a)))
  | .func (.func f) y z => K (st.put d (.func (.func f) y z))
  | .iface t u => K (st.put d (.iface t u))
  | _ => False
section
variable {g : Cfg} {st : ASt} {K : ASt → Prop} {Kp : Value → ASt → Prop} {d : Option Tmp} {t : TypeId} {ps : String} {af : Array Edge} {gu : Option (Nat × Bool)}
theorem op_move {x : Operand} : opW g ⟨d, .move x, t, ps, af, gu⟩ st K Kp = wth (ev st x) fun v => K (st.put d v) := by
  simp only [opW, invokeW, pickW, panW, nilW, true_and]
  try rfl
theorem op_assign {x : Operand} : opW g ⟨d, .assign x, t, ps, af, gu⟩ st K Kp = wth (ev st x) fun v => K (st.put d v) := by
  simp only [opW, invokeW, pickW, panW, nilW, true_and]
  try rfl
theorem op_alloc {e : TypeId} : opW g ⟨d, .alloc e, t, ps, af, gu⟩ st K Kp = allocW g.P e st.H (kv st d K) := by
  simp only [opW, invokeW, pickW, panW, nilW, true_and]
  try rfl
theorem op_box {e : TypeId} {x : Operand} : opW g ⟨d, .box e x, t, ps, af, gu⟩ st K Kp = wth (ev st x) fun v => boxW e v st.H (kv st d K) := by
  simp only [opW, invokeW, pickW, panW, nilW, true_and]
  try rfl
theorem op_build {e : TypeId} {xs : Array (Nat × Operand)} : opW g ⟨d, .build e xs, t, ps, af, gu⟩ st K Kp = wth (evP st xs.toList) fun l => buildW g.P e l st.H (kv st d K) := by
  simp only [opW, invokeW, pickW, panW, nilW, true_and]
  try rfl
theorem op_buildSlice {e : TypeId} {n : Nat} {xs : Array (Nat × Operand)} : opW g ⟨d, .buildSlice e n xs, t, ps, af, gu⟩ st K Kp = wth (evP st xs.toList) fun l => buildSliceW g.P e n l st.H (kv st d K) := by
  simp only [opW, invokeW, pickW, panW, nilW, true_and]
  try rfl
theorem op_load {e : TypeId} {a : Operand} : opW g ⟨d, .load e a, t, ps, af, gu⟩ st K Kp = wth (ev st a) fun v => loadW g.P e v st.H (kv st d K) := by
  simp only [opW, invokeW, pickW, panW, nilW, true_and]
  try rfl
theorem op_store {e : TypeId} {a x : Operand} : opW g ⟨d, .store e a x, t, ps, af, gu⟩ st K Kp = wth (ev st a) fun v => wth (ev st x) fun u => storeW g.P e v u st.H fun H' => K (ASt.put ⟨st.env, st.defs, H'⟩ d noVal) := by
  simp only [opW, invokeW, pickW, panW, nilW, true_and]
  try rfl
theorem op_binOp {b : BinOp} {e z : TypeId} {x y : Operand} : opW g ⟨d, .binOp b e x y z, t, ps, af, gu⟩ st K Kp = wth (ev st x) fun a => wth (ev st y) fun c => binW g.P b e x y a c fun v => K (st.put d v) := by
  simp only [opW, invokeW, pickW, panW, nilW, true_and]
  try rfl
theorem op_unOp {b : UnOp} {e : TypeId} {x : Operand} : opW g ⟨d, .unOp b e x, t, ps, af, gu⟩ st K Kp = wth (ev st x) fun a => unW b a fun v => K (st.put d v) := by
  simp only [opW, invokeW, pickW, panW, nilW, true_and]
  try rfl
theorem op_convert {e f : TypeId} {x : Operand} : opW g ⟨d, .convert e f x, t, ps, af, gu⟩ st K Kp = wth (ev st x) fun a => convW g.P e f a st.H (kv st d K) := by
  simp only [opW, invokeW, pickW, panW, nilW, true_and]
  try rfl
theorem op_makeInterface {e : TypeId} {x : Operand} : opW g ⟨d, .makeInterface e x, t, ps, af, gu⟩ st K Kp = wth (ev st x) fun a => ifaceW g.P e a st.H (kv st d K) := by
  simp only [opW, invokeW, pickW, panW, nilW, true_and]
  try rfl
theorem op_makeFunc {f : FuncId} {xs ys : Array Operand} : opW g ⟨d, .makeFunc (.func f) xs ys, t, ps, af, gu⟩ st K Kp = wth (evs st xs.toList) fun a => wth (evs st ys.toList) fun b => K (st.put d (.func (.func f) ⟨a⟩ ⟨b⟩)) := by
  simp only [opW, invokeW, pickW, panW, nilW, true_and]
  try rfl
theorem op_makeSlice {e : TypeId} {l n : Operand} : opW g ⟨d, .makeSlice e l n, t, ps, af, gu⟩ st K Kp = wth (ev st l) fun a => wth (ev st n) fun b => makeSliceW g.P e a b st.H (kv st d K) := by
  simp only [opW, invokeW, pickW, panW, nilW, true_and]
  try rfl
theorem op_slice {e : TypeId} {x : Operand} {lo hi mx : Option Operand} : opW g ⟨d, .slice e x lo hi mx, t, ps, af, gu⟩ st K Kp = wth (ev st x) fun a => wth (evO st lo) fun l => wth (evO st hi) fun h => wth (evO st mx) fun m => sliceW g.P e a l h m st.H (kv st d K) := by
  simp only [opW, invokeW, pickW, panW, nilW, true_and]
  try rfl
theorem op_fieldAddr {e : TypeId} {x : Operand} {f : Nat} : opW g ⟨d, .fieldAddr e x f, t, ps, af, gu⟩ st K Kp = wth (ev st x) fun a => fieldAddrW g.P e a f st.H (kv st d K) := by
  simp only [opW, invokeW, pickW, panW, nilW, true_and]
  try rfl
theorem op_field {e : TypeId} {x : Operand} {f : Nat} : opW g ⟨d, .field e x f, t, ps, af, gu⟩ st K Kp = wth (ev st x) fun a => fieldW g.P e a f st.H (kv st d K) := by
  simp only [opW, invokeW, pickW, panW, nilW, true_and]
  try rfl
theorem op_indexAddr {e : TypeId} {x i : Operand} : opW g ⟨d, .indexAddr e x i, t, ps, af, gu⟩ st K Kp = wth (ev st x) fun a => wth (ev st i) fun b => indexAddrW g.P e a b st.H (kv st d K) := by
  simp only [opW, invokeW, pickW, panW, nilW, true_and]
  try rfl
theorem op_index {e : TypeId} {x i : Operand} : opW g ⟨d, .index e x i, t, ps, af, gu⟩ st K Kp = wth (ev st x) fun a => wth (ev st i) fun b => indexW g.P e a b st.H (kv st d K) := by
  simp only [opW, invokeW, pickW, panW, nilW, true_and]
  try rfl
theorem op_typeAssert {e f : TypeId} {x : Operand} {ok : Bool} : opW g ⟨d, .typeAssert x e f ok, t, ps, af, gu⟩ st K Kp = wth (ev st x) fun a => assertW g.P a e f ok st.H (kv st d K) := by
  simp only [opW, invokeW, pickW, panW, nilW, true_and]
  try rfl
theorem op_extract {x : Operand} {i : Nat} : opW g ⟨d, .extract x i, t, ps, af, gu⟩ st K Kp = wth (ev st x) fun a => extractW a i st.H (kv st d K) := by
  simp only [opW, invokeW, pickW, panW, nilW, true_and]
  try rfl
theorem op_callV {x : Operand} {as : Array Operand} {ts : Array TypeId} : opW g ⟨d, .call ⟨.value x, as, ts⟩, t, ps, af, gu⟩ st K Kp = wth (evs st as.toList) fun args => wth (ev st x) fun fv => callV g.P fv args st d K Kp := by
  simp only [opW, invokeW, pickW, panW, nilW, true_and]
  try rfl
theorem op_callB {b : Builtin} {as : Array Operand} {ts : Array TypeId} : opW g ⟨d, .call ⟨.builtin b, as, ts⟩, t, ps, af, gu⟩ st K Kp = wth (evs st as.toList) fun args => builtinW g.P b ts.toList args st d K := by
  simp only [opW, invokeW, pickW, panW, nilW, true_and]
  try rfl
theorem op_callI {x : Operand} {n : String} {as : Array Operand} {ts : Array TypeId} : opW g ⟨d, .call ⟨.invoke x n, as, ts⟩, t, ps, af, gu⟩ st K Kp = wth (evs st as.toList) fun args => wth (ev st x) fun r => invokeW g.P r n args st d K Kp := by
  simp only [opW, invokeW, pickW, panW, nilW, true_and]
  try rfl
theorem op_pick {c a b : Operand} : opW g ⟨d, .pick c a b, t, ps, af, gu⟩ st K Kp = wth (ev st c) fun u => pickW st d u (ev st a) (ev st b) K := by
  simp only [opW, invokeW, pickW, panW, nilW, true_and]
  try rfl
theorem op_panic {x : Operand} : opW g ⟨d, .panic x, t, ps, af, gu⟩ st K Kp = wth (ev st x) fun v => panW v st Kp := by
  simp only [opW, invokeW, pickW, panW, nilW, true_and]
  try rfl
theorem op_nilCheck {x : Operand} : opW g ⟨d, .nilCheck x, t, ps, af, gu⟩ st K Kp = wth (ev st x) fun v => nilW v st d K := by
  simp only [opW, invokeW, pickW, panW, nilW, true_and]
  try rfl
theorem op_makeMap {e : TypeId} : opW g ⟨d, .makeMap e none, t, ps, af, gu⟩ st K Kp = makeMapW none st.H (kv st d K) := by
  simp only [opW, invokeW, pickW, panW, nilW, true_and, Option.map_none]
  try rfl
theorem op_lookup {e : TypeId} {x i : Operand} {ok : Bool} : opW g ⟨d, .lookup e x i ok, t, ps, af, gu⟩ st K Kp = wth (ev st x) fun a => wth (ev st i) fun b => lookupW g.P e a b ok st.H (kv st d K) := by
  simp only [opW, invokeW, pickW, panW, nilW, true_and]
  try rfl
theorem op_mapEntry {e : TypeId} {x i : Operand} : opW g ⟨d, .mapEntry e x i, t, ps, af, gu⟩ st K Kp = wth (ev st x) fun a => wth (ev st i) fun b => mapEntryW g.P e a b st.H (kv st d K) := by
  simp only [opW, invokeW, pickW, panW, nilW, true_and]
  try rfl
theorem op_mapUpdate {e : TypeId} {m k x : Operand} : opW g ⟨d, .mapUpdate e m k x, t, ps, af, gu⟩ st K Kp = wth (ev st m) fun a => wth (ev st k) fun b => wth (ev st x) fun u => mapUpdateW g.P e a b u st.H fun H' => K (ASt.put ⟨st.env, st.defs, H'⟩ d noVal) := by
  simp only [opW, invokeW, pickW, panW, nilW, true_and]
  try rfl
theorem op_insert {e : TypeId} {m k x : Operand} : opW g ⟨d, .insert e m k x, t, ps, af, gu⟩ st K Kp = wth (ev st m) fun a => wth (ev st k) fun b => wth (ev st x) fun u => mapUpdateW g.P e a b u st.H fun H' => K (ASt.put ⟨st.env, st.defs, H'⟩ d noVal) := by
  simp only [opW, invokeW, pickW, panW, nilW, true_and]
  try rfl
theorem op_entryStore {e : TypeId} {m k x : Operand} : opW g ⟨d, .entryStore e m k x, t, ps, af, gu⟩ st K Kp = wth (ev st m) fun a => wth (ev st k) fun b => wth (ev st x) fun u => entryStoreW a b u st.H fun H' => K (ASt.put ⟨st.env, st.defs, H'⟩ d noVal) := by
  simp only [opW, invokeW, pickW, panW, nilW, true_and]
  try rfl
theorem pickW_t {a b : Option Value} : pickW st d (.bool true) a b K = wth a fun v => K (st.put d v) := by simp [pickW]
theorem pickW_f {a b : Option Value} : pickW st d (.bool false) a b K = wth b fun v => K (st.put d v) := by simp [pickW]
/-- Both are known: the one or the other, by the flag. -/
theorem pickW_b {c : Bool} {a b : Bool} : pickW st d (.bool c) (some (.bool a)) (some (.bool b)) K = K (st.put d (.bool (if c then a else b))) := by cases c <;> simp [pickW, wth_some]
theorem panW_i {i : TypeId} {u : Value} : panW (.iface i u) st Kp = Kp (.iface i u) st := propext Iff.rfl
theorem nilW_p {a : Addr} : nilW (.pointer (some a)) st d K = K (st.put d (.pointer (some a))) := propext Iff.rfl
theorem nilW_f {f : FuncId} {y z : Array Value} : nilW (.func (.func f) y z) st d K = K (st.put d (.func (.func f) y z)) := propext Iff.rfl
theorem nilW_i {i : TypeId} {u : Value} : nilW (.iface i u) st d K = K (st.put d (.iface i u)) := propext Iff.rfl
theorem put_so {e : List (Nat × Value)} {ds : List ADef} {H : AHeap} {i : Nat} {v : Value} : ASt.put ⟨e, ds, H⟩ (some i) v = ⟨(i, v) :: e, ds, H⟩ := by unfold ASt.put; rfl
theorem put_no {v : Value} : ASt.put st none v = st := by unfold ASt.put; rfl
theorem wth_so {α : Type} {a : α} {f : α → Prop} : wth (some a) f = f a := propext Iff.rfl
theorem kv_go {e : List (Nat × Value)} {ds : List ADef} {H H' : AHeap} {v : Value} : kv ⟨e, ds, H⟩ d K v H' = K (ASt.put ⟨e, ds, H'⟩ d v) := propext Iff.rfl
theorem resK_r {e : List (Nat × Value)} {ds : List ADef} {H H' : AHeap} {v : Value} : resK K Kp ⟨e, ds, H⟩ d (.ret v) H' = K (ASt.put ⟨e, ds, H'⟩ d v) := propext Iff.rfl
theorem resK_p {e : List (Nat × Value)} {ds : List ADef} {H H' : AHeap} {v : Value} : resK K Kp ⟨e, ds, H⟩ d (.pan v) H' = Kp v ⟨e, ds, H'⟩ := propext Iff.rfl
theorem next_n {Q : AExit → ASt → Prop} : next K Q .normal st = K st := propext Iff.rfl
theorem next_e {Q : AExit → ASt → Prop} {i : Nat} : next K Q (.exit i) st = Q (.exit i) st := propext Iff.rfl
theorem next_g {Q : AExit → ASt → Prop} {i : Nat} : next K Q (.goto i) st = Q (.goto i) st := propext Iff.rfl
theorem next_r {Q : AExit → ASt → Prop} : next K Q .ret st = Q .ret st := propext Iff.rfl
theorem next_p {Q : AExit → ASt → Prop} {v : Value} : next K Q (.panic v) st = Q (.panic v) st := propext Iff.rfl
theorem inB_n {Q : AExit → ASt → Prop} {i : Nat} : inBlock i Q .normal st = Q .normal st := propext Iff.rfl
theorem inB_e {Q : AExit → ASt → Prop} {i j : Nat} : inBlock i Q (.exit j) st = if j = i then Q .normal st else Q (.exit j) st := propext Iff.rfl
theorem inB_g {Q : AExit → ASt → Prop} {i j : Nat} : inBlock i Q (.goto j) st = Q (.goto j) st := propext Iff.rfl
theorem inB_r {Q : AExit → ASt → Prop} {i : Nat} : inBlock i Q .ret st = Q .ret st := propext Iff.rfl
theorem inB_p {Q : AExit → ASt → Prop} {i : Nat} {v : Value} : inBlock i Q (.panic v) st = Q (.panic v) st := propext Iff.rfl
theorem lk_co {i k : Nat} {v : Value} {r : List (Nat × Value)} : lk i ((k, v) :: r) = if k = i then some v else lk i r := by rw [lk]
end

/-! ### A region, step by step -/
/-- An operation under a guard. -/
def gstep (g : Cfg) (ops : List Oper) (o : Oper) (r : List Oper) (want : Bool) (v : Option Value) (st : ASt) (K : ASt → Prop) (Kp : Value → ASt → Prop) : Prop :=
  wth v fun v => match v with
    | .bool b => (b = want → opW g o st (fun st' => regionW g ops r st' K Kp) Kp) ∧ (b ≠ want → regionW g ops r (st.put o.dst noVal) K Kp)
    | .tuple _ => regionW g ops r (st.put o.dst noVal) K Kp
    | _ => False
section
variable {g : Cfg} {ops r : List Oper} {o : Oper} {st : ASt} {K : ASt → Prop} {Kp : Value → ASt → Prop} {d : Option Tmp} {op : Op} {t : TypeId} {ps : String} {af : Array Edge}
theorem regionW_nil : regionW g ops [] st K Kp = K st := propext Iff.rfl
theorem regionW_go : regionW g ops (⟨d, op, t, ps, af, none⟩ :: r) st K Kp = opW g ⟨d, op, t, ps, af, none⟩ st (fun st' => regionW g ops r st' K Kp) Kp := propext Iff.rfl
theorem regionW_if {j : Nat} {want : Bool} : regionW g ops (⟨d, op, t, ps, af, some (j, want)⟩ :: r) st K Kp = gstep g ops ⟨d, op, t, ps, af, some (j, want)⟩ r want ((gd ops j).bind fun d => lk d st.env) st K Kp := by
  simp only [regionW, wantW, gstep]
  cases gd ops j <;> rfl
theorem gstep_tt : gstep g ops o r true (some (.bool true)) st K Kp = opW g o st (fun st' => regionW g ops r st' K Kp) Kp := by simp [gstep, wth_some]
theorem gstep_ff : gstep g ops o r false (some (.bool false)) st K Kp = opW g o st (fun st' => regionW g ops r st' K Kp) Kp := by simp [gstep, wth_some]
theorem gstep_tf : gstep g ops o r true (some (.bool false)) st K Kp = regionW g ops r (st.put o.dst noVal) K Kp := by simp [gstep, wth_some]
theorem gstep_ft : gstep g ops o r false (some (.bool true)) st K Kp = regionW g ops r (st.put o.dst noVal) K Kp := by simp [gstep, wth_some]
theorem gstep_no {w : Bool} {x : Array Value} : gstep g ops o r w (some (.tuple x)) st K Kp = regionW g ops r (st.put o.dst noVal) K Kp := by simp [gstep, wth_some]
end
@[congr] theorem gstep_cong {g : Cfg} {ops r : List Oper} {o : Oper} {w : Bool} {v v' : Option Value} {st : ASt} {K : ASt → Prop} {Kp : Value → ASt → Prop} (h : v = v') : gstep g ops o r w v st K Kp = gstep g ops o r w v' st K Kp := by rw [h]

theorem lenW_bs {P : Program} {t : TypeId} {l : List UInt8} {H : AHeap} {K : Value → AHeap → Prop} (h : P.underlying t = some .string) : lenW P t (.string (bs l)) H K = K (.int .i64 l.length) H := by
  simp only [lenW, h]; rfl
theorem strW_eql {a b : List UInt8} {K : Value → Prop} : strW .eql (bs a) (bs b) K = K (.bool (a == b)) := by simp only [strW, toList_bs]
theorem strW_neq {a b : List UInt8} {K : Value → Prop} : strW .neq (bs a) (bs b) K = K (.bool (!(a == b))) := by simp only [strW, toList_bs]
theorem strW_lss {a b : List UInt8} {K : Value → Prop} : strW .lss (bs a) (bs b) K = K (.bool (Op.bytesLess a b)) := by simp only [strW, toList_bs]
theorem strW_leq {a b : List UInt8} {K : Value → Prop} : strW .leq (bs a) (bs b) K = K (.bool (Op.bytesLess a b || a == b)) := by simp only [strW, toList_bs]
theorem strW_gtr {a b : List UInt8} {K : Value → Prop} : strW .gtr (bs a) (bs b) K = K (.bool (!(Op.bytesLess a b || a == b))) := by simp only [strW, toList_bs]
theorem strW_geq {a b : List UInt8} {K : Value → Prop} : strW .geq (bs a) (bs b) K = K (.bool (!(Op.bytesLess a b))) := by simp only [strW, toList_bs]
theorem strW_add {a b : List UInt8} {K : Value → Prop} : strW .add (bs a) (bs b) K = (a.length + b.length ≤ 9223372036854775807 ∧ K (.string (bs (a ++ b)))) := by simp only [strW, bs_size, bs_append]
theorem mkB (l : List UInt8) : ByteArray.mk l.toArray = bs l := rfl
theorem finR {n0 : Nat} {H : AHeap} {v : Value} : ∃ v2 H2, WeakV n0 H v H2 v2 ∧ ARes.ret v2 = ARes.ret v ∧ H2 = H := ⟨_, _, .refl _ _ _, rfl, rfl⟩
theorem finR' {n0 : Nat} {H H' : AHeap} {v v' : Value} (h : v = v') (h2 : H = H') : ∃ v2 H2, WeakV n0 H v H2 v2 ∧ ARes.ret v2 = ARes.ret v' ∧ H2 = H' := by subst h; subst h2; exact finR
theorem finD {H l : AHeap} {v : Value} (hs : Scoped H) (hv : NRel (upto H.length) v v) : ∃ v2 H2, WeakV H.length (H ++ l) v H2 v2 ∧ ARes.ret v2 = ARes.ret v ∧ H2 = H := ⟨_, _, .drop rfl hs hv, rfl, rfl⟩

theorem AWP.rangeL {g : Cfg} {Q : AExit → ASt → Prop} {env : List (Nat × Value)} {ds : List ADef} {H : AHeap} {gop : Operand} {ps : List Tmp} {assign body : Code} {f : FuncId} {first cap : List Value} {fnd : Func} (hfd : g.P.funcs[f]? = some fnd) (hlr : g.lr = none) (hn0 : g.n0 ≤ H.length) (hg : ev ⟨env, ds, H⟩ gop = some (.func (.func f) ⟨first⟩ ⟨cap⟩))
    (hbd : fnd.body.isSome = true) (hnd : (fnd.name == "runtime.NumGoroutine") = false)
    (h : ∀ L : ALoop, L = ⟨.ready, none, env, g.N.n, ps, assign, body⟩ → AC g.P f (first ++ ([.func (.yield H.length) ⟨[]⟩ ⟨[]⟩] ++ cap)) (H ++ [.loop L]) (loopK g Q ⟨env, ds, H⟩)) : AWP g (.rangeFunc gop ps.toArray assign body) Q ⟨env, ds, H⟩ :=
  AWP.rangeFunc hlr hn0 hg hfd hbd hnd (by rw [List.append_assoc]; exact h _ rfl)

theorem repZ_one (n : Nat) (v : Value) : repZ n [v] = List.replicate n v := by
  induction n with
  | zero => rfl
  | succ n ih => simp only [repZ] at *; rw [List.replicate_succ, List.replicate_succ, ← ih]; rfl
theorem bytesC_zeros (n : Nat) : List.replicate n (Value.int .u8 0) = bytesC (List.replicate n 0) := by simp [bytesC]
theorem bw8_shl (k : Nat) (h : k < 8) : IntKind.u8.wrap (1 * 2 ^ min k IntKind.u8.bits) = ((2 ^ k : Nat) : Int) := by
  have hm : min k IntKind.u8.bits = k := by show min k 8 = k; omega
  have hk : 2 ^ k < 256 := Nat.pow_lt_pow_right (by omega) h
  rw [hm, Int.one_mul, show ((2 : Int) ^ k) = ((2 ^ k : Nat) : Int) from by norm_cast]
  have h0 : (0 : Int) ≤ ((2 ^ k : Nat) : Int) := Int.natCast_nonneg _
  have h1 : ((2 ^ k : Nat) : Int) < ((256 : Nat) : Int) := Int.ofNat_lt.2 hk
  exact wu8 ⟨h0, h1⟩
theorem toNat_ofNat8 {n : Nat} (h : n < 256) : (UInt8.ofNat n).toNat = n := by simp; omega

theorem AY.mono {P : Program} {i : Nat} {args : List Value} {H : AHeap} {K K' : Value → AHeap → Prop} (h : AY P i args H K) (hk : ∀ v H', K v H' → K' v H') : AY P i args H K' := by
  intro c w vargs p hh hv hc
  obtain ⟨f, tmps, assign, body, w1, h1, h2⟩ := h c w vargs p hh hv hc
  exact ⟨f, tmps, assign, body, w1, h1, h2.mono fun e w' he => CPost.mono (fun r H ⟨v, h3, h4⟩ => ⟨v, h3, hk _ _ h4⟩) he⟩
end Go.Aw
