/-
  The operations, said of abstract states: two operands, one operand, places, slices, structs.
-/
import Derived.Test.YtdeoaadkngiilaaDoorAw5
set_option linter.unusedVariables false
set_option linter.unusedSimpArgs false
namespace Go.Aw

/-! ### Two operands -/
def intW (op : BinOp) (k : IntKind) (m : Int) (j : IntKind) (n : Int) (K : Value → Prop) : Prop :=
  match op with
  | .shl => 0 ≤ n ∧ K (.int k (k.wrap (m * 2 ^ min n.toNat k.bits)))
  | .shr => 0 ≤ n ∧ K (.int k (m.fdiv (2 ^ min n.toNat k.bits)))
  | .add => k = j ∧ K (.int k (k.wrap (m + n)))
  | .sub => k = j ∧ K (.int k (k.wrap (m - n)))
  | .mul => k = j ∧ K (.int k (k.wrap (m * n)))
  | .quo => k = j ∧ n ≠ 0 ∧ K (.int k (k.wrap (m.tdiv n)))
  | .rem => k = j ∧ n ≠ 0 ∧ K (.int k (m.tmod n))
  | .and => k = j ∧ wth (bitV .and k m n) fun r => K (.int k r)
  | .or => k = j ∧ wth (bitV .or k m n) fun r => K (.int k r)
  | .xor => k = j ∧ wth (bitV .xor k m n) fun r => K (.int k r)
  | .andNot => k = j ∧ wth (bitV .andNot k m n) fun r => K (.int k r)
  | .eql => k = j ∧ K (.bool (m == n))
  | .neq => k = j ∧ K (.bool (m != n))
  | .lss => k = j ∧ K (.bool (decide (m < n)))
  | .leq => k = j ∧ K (.bool (decide (m ≤ n)))
  | .gtr => k = j ∧ K (.bool (decide (m > n)))
  | .geq => k = j ∧ K (.bool (decide (m ≥ n)))

theorem intW_ok {P : Program} {op : BinOp} {k j : IntKind} {m n : Int} {K : Value → Prop} (t : TypeId) (h : intW op k m j n K) (w : World) :
    ∃ v, (binOp op t (.int k m) (.int j n)).run P w = .ok v w ∧ scalar v = true ∧ K v := by
  cases op
  case shl => obtain ⟨h0, hk⟩ := h; exact ⟨_, by simp only [binOp, Op.shift]; rw [if_neg (by omega)]; rfl, rfl, hk⟩
  case shr => obtain ⟨h0, hk⟩ := h; exact ⟨_, by simp only [binOp, Op.shift]; rw [if_neg (by omega)]; rfl, rfl, hk⟩
  case quo => obtain ⟨rfl, h0, hk⟩ := h; exact ⟨_, by simp [binOp, Op.intDiv, h0], rfl, hk⟩
  case rem => obtain ⟨rfl, h0, hk⟩ := h; exact ⟨_, by simp [binOp, Op.intDiv, h0], rfl, hk⟩
  all_goals
    obtain ⟨rfl, hk⟩ := h
    exact ⟨_, by simp [binOp, Op.intArith, Op.intBits, Op.intCmp, Sem.run_pure], rfl, hk⟩

def strW (op : BinOp) (a b : ByteArray) (K : Value → Prop) : Prop :=
  match op with
  | .add => a.size + b.size ≤ 9223372036854775807 ∧ K (.string (a ++ b))
  | .eql => K (.bool (a.toList == b.toList))
  | .neq => K (.bool (!(a.toList == b.toList)))
  | .lss => K (.bool (Op.bytesLess a.toList b.toList))
  | .leq => K (.bool (Op.bytesLess a.toList b.toList || a.toList == b.toList))
  | .gtr => K (.bool (!(Op.bytesLess a.toList b.toList || a.toList == b.toList)))
  | .geq => K (.bool (!(Op.bytesLess a.toList b.toList)))
  | _ => False

theorem strW_ok {P : Program} {op : BinOp} {a b : ByteArray} {K : Value → Prop} (t : TypeId) (h : strW op a b K) (w : World) :
    ∃ v, (binOp op t (.string a) (.string b)).run P w = .ok v w ∧ scalar v = true ∧ K v := by
  cases op
  case add => obtain ⟨h0, hk⟩ := h; exact ⟨_, by simp only [binOp]; exact run_string_add_sum w a b h0, rfl, hk⟩
  all_goals first
    | exact h.elim
    | exact ⟨_, by simp [binOp, Op.stringOp, Sem.run_pure], rfl, h⟩

def isConst : Operand → Bool
  | .const _ => true
  | _ => false

/-- What the model asks besides of a comparison. -/
def guardW (P : Program) (t : TypeId) (x y : Operand) : Value → Value → Prop
  | .nilIface, .nilIface => (isConst x || isConst y) = true
  | .agg _, .agg _ => P.eqGuardType P.depth t = false
  | _, _ => True

theorem guardW_ok {P : Program} {c : Ctx} {op : BinOp} {t : TypeId} {x y : Operand} {a b a' b' : Value} (h : guardW P t x y a b) (ha : VRel c a a') (hb : VRel c b b') (w : World) :
    (eqGuard op t x y a' b').run P w = .ok () w := by
  cases op <;> first
    | rfl
    | (simp only [eqGuard, Bool.not_true, Bool.false_eq_true, if_false]
       cases ha <;> first
         | rfl
         | (cases hb <;> first
             | rfl
             | (cases x <;> cases y <;> first
                 | (simp [guardW, isConst] at h; done)
                 | rfl)
             | (simp only [guardW] at h; simp [h])))

def binW (P : Program) (op : BinOp) (t : TypeId) (x y : Operand) (a b : Value) (K : Value → Prop) : Prop :=
  match a, b with
  | .int k m, .int j n => intW op k m j n K
  | .string a, .string b => strW op a b K
  | a, b =>
    match op with
    | .eql => guardW P t x y a b ∧ wth (eqV P 20 t a b) fun r => K (.bool r)
    | .neq => guardW P t x y a b ∧ wth (eqV P 20 t a b) fun r => K (.bool (!r))
    | _ => False

theorem binOp_eql {P : Program} {c : Ctx} {t : TypeId} {a b a' b' : Value} {r : Bool} (h : eqV P 20 t a b = some r) (ha : VRel c a a') (hb : VRel c b b') (w : World) (hi : ∀ k m j n, a' = .int k m → b' = .int j n → False) (hs : ∀ k m, a' = .string k → b' = .string m → False) :
    (binOp .eql t a' b').run P w = .ok (.bool r) w ∧ (binOp .neq t a' b').run P w = .ok (.bool (!r)) w := by
  have he : (Op.equal t a' b').run P w = .ok r w := by
    have := eqV_ok (w := w) h ha hb 9980
    exact this
  have e1 : binOp .eql t a' b' = (do pure (.bool (← Op.equal t a' b'))) := by
    cases ha <;> cases hb <;> first
      | rfl
      | exact (hi _ _ _ _ rfl rfl).elim
      | exact (hs _ _ rfl rfl).elim
      | (simp [eqV] at h; done)
  have e2 : binOp .neq t a' b' = (do pure (.bool (!(← Op.equal t a' b')))) := by
    cases ha <;> cases hb <;> first
      | rfl
      | exact (hi _ _ _ _ rfl rfl).elim
      | exact (hs _ _ rfl rfl).elim
      | (simp [eqV] at h; done)
  rw [e1, e2]
  simp [he]

theorem binW_ok {P : Program} {c : Ctx} {op : BinOp} {t : TypeId} {x y : Operand} {a b a' b' : Value} {K : Value → Prop} (h : binW P op t x y a b K) (ha : VRel c a a') (hb : VRel c b b') (w : World) :
    ∃ v, (do eqGuard op t x y a' b'; binOp op t a' b' : Sem Value).run P w = .ok v w ∧ scalar v = true ∧ K v := by
  unfold binW at h
  split at h
  · rename_i k m j n
    cases ha; cases hb
    obtain ⟨v, h1, h2⟩ := intW_ok (P := P) t h w
    have : (eqGuard op t x y (.int k m) (.int j n)).run P w = .ok () w := guardW_ok (c := c) (a := .int k m) (b := .int j n) trivial (.int k m) (.int j n) w
    exact ⟨v, by simp only [Sem.run_bind, this, Result.andThen_ok, h1], h2⟩
  · rename_i s1 s2
    cases ha; cases hb
    obtain ⟨v, h1, h2⟩ := strW_ok (P := P) t h w
    have : (eqGuard op t x y (.string s1) (.string s2)).run P w = .ok () w := guardW_ok (c := c) (a := .string s1) (b := .string s2) trivial (.string s1) (.string s2) w
    exact ⟨v, by simp only [Sem.run_bind, this, Result.andThen_ok, h1], h2⟩
  · rename_i hni hns
    have hi : ∀ k m j n, a' = .int k m → b' = .int j n → False := by
      intro k m j n e1 e2; subst e1; subst e2; cases ha; cases hb; exact hni _ _ _ _ rfl rfl
    have hs : ∀ k m, a' = .string k → b' = .string m → False := by
      intro k m e1 e2; subst e1; subst e2; cases ha; cases hb; exact hns _ _ rfl rfl
    split at h
    · obtain ⟨hg, h⟩ := h
      obtain ⟨r, hr, hk⟩ := wth_elim h
      exact ⟨.bool r, by simp only [Sem.run_bind, guardW_ok hg ha hb w, Result.andThen_ok, (binOp_eql hr ha hb w hi hs).1], rfl, hk⟩
    · obtain ⟨hg, h⟩ := h
      obtain ⟨r, hr, hk⟩ := wth_elim h
      exact ⟨.bool (!r), by simp only [Sem.run_bind, guardW_ok hg ha hb w, Result.andThen_ok, (binOp_eql hr ha hb w hi hs).2], rfl, hk⟩
    · exact h.elim

/-! ### One operand -/
def unW (op : UnOp) (a : Value) (K : Value → Prop) : Prop :=
  match op, a with
  | .neg, .int k n => K (.int k (k.wrap (0 - n)))
  | .xor, .int k n => wth (bitV .xor k (if k.signed then -1 else k.max) n) fun r => K (.int k r)
  | .not, .bool b => K (.bool (!b))
  | _, _ => False

theorem unW_ok {P : Program} {c : Ctx} {op : UnOp} {a a' : Value} {K : Value → Prop} (h : unW op a K) (ha : VRel c a a') (w : World) : ∃ v, (Op.unary op a').run P w = .ok v w ∧ scalar v = true ∧ K v := by
  unfold unW at h
  split at h
  · cases ha; exact ⟨_, by simp [Op.unary, Op.intArith], rfl, h⟩
  · cases ha; exact ⟨_, by simp [Op.unary, Op.intBits], rfl, h⟩
  · cases ha; exact ⟨_, by simp [Op.unary], rfl, h⟩
  · exact h.elim

/-! ### Fields -/
def tF (P : Program) (t : TypeId) (n : Nat) : Option (Nat × TypeId) :=
  match P.underlying t with
  | some (.struct fs) => fs[n]?.map fun f => (f.offset, f.type)
  | _ => none

def isZero : Option Nat → Bool
  | some 0 => true
  | none => true
  | _ => false

def fieldAddrW (P : Program) (t : TypeId) (a : Value) (f : Nat) (H : AHeap) (K : Value → AHeap → Prop) : Prop :=
  match a with
  | .pointer (some ⟨i, off, none⟩) => wth (tF P t f) fun p => isZero (tS P p.2) = false ∧ K (.pointer (some ⟨i, off + p.1, none⟩)) H
  | _ => False

theorem addr_add (b o n : Nat) : (⟨b, o, none⟩ : Addr).add n = ⟨b, o + n, none⟩ := by unfold Addr.add; split <;> simp_all

theorem fieldAddrW_ok {P : Program} {t : TypeId} {f : Nat} {c : Ctx} {H : AHeap} {w : World} {K : Value → AHeap → Prop} (h : HRel c H w) {a a' : Value} (ha : VRel c a a') (hw : fieldAddrW P t a f H K) : Gives P (Instr.fieldAt t a' f) c H w K := by
  unfold fieldAddrW at hw
  split at hw
  · obtain ⟨p, hp, hz, hk⟩ := wth_elim hw
    cases ha with
    | ptr hc =>
      unfold tF at hp
      split at hp
      · rename_i fs hu
        cases hf : fs[f]? with
        | none => rw [hf] at hp; cases hp
        | some fd =>
          rw [hf] at hp; simp only [Option.map_some, Option.some.injEq] at hp; subst hp
          cases hs : tS P fd.type with
          | none => simp only [hs] at hz; cases hz
          | some n =>
            simp only [hs] at hz
            have hn : n ≠ 0 := by rintro rfl; cases hz
            refine .pure h (v' := _) ?_ (.ptr (off := _ + fd.offset) hc) hk
            simp only [Instr.fieldAt, Sem.run_bind, run_underlying hu, Result.andThen_ok, hf, Instr.sureAddr, Sem.run_pure, fieldPlace, run_sizeOf hs, hn, if_false, addr_add, Nat.add_assoc]
      · cases hp
  · exact hw.elim

def partW (P : Program) (t : TypeId) (cs : List Value) (off : Nat) (K : Value → Prop) : Prop :=
  wth (tA P t) fun agg => if agg = true then wth (tS P t) fun n => K (.agg ⟨(cs.drop off).take n⟩) else wth cs[off]? K

theorem partW_ok {P : Program} {t : TypeId} {c : Ctx} {cs cs' : List Value} {off : Nat} {K : Value → Prop} (h : partW P t cs off K) (hc : VRels c cs cs') (w : World) : ∃ v v', (part t ⟨cs'⟩ off).run P w = .ok v' w ∧ VRel c v v' ∧ K v := by
  obtain ⟨agg, ha, h⟩ := wth_elim h
  cases agg with
  | true =>
    simp only [if_true] at h
    obtain ⟨n, hn, hk⟩ := wth_elim h
    obtain ⟨x', h1, h2⟩ := (part_ok hc w).1 n ha hn
    exact ⟨_, x', h1, h2, hk⟩
  | false =>
    simp only [Bool.false_eq_true, if_false] at h
    obtain ⟨x, hx, hk⟩ := wth_elim h
    obtain ⟨x', h1, h2⟩ := (part_ok hc w).2 x ha hx
    exact ⟨_, x', h1, h2, hk⟩

def fieldW (P : Program) (t : TypeId) (a : Value) (f : Nat) (H : AHeap) (K : Value → AHeap → Prop) : Prop :=
  match a with
  | .agg ⟨cs⟩ => wth (tF P t f) fun p => partW P p.2 cs p.1 fun v => K v H
  | _ => False

theorem fieldW_ok {P : Program} {t : TypeId} {f : Nat} {c : Ctx} {H : AHeap} {w : World} {K : Value → AHeap → Prop} (h : HRel c H w) {a a' : Value} (ha : VRel c a a') (hw : fieldW P t a f H K) : Gives P (Instr.field t a' f) c H w K := by
  unfold fieldW at hw
  split at hw
  · obtain ⟨p, hp, hk⟩ := wth_elim hw
    cases ha with
    | agg hcs =>
      unfold tF at hp
      split at hp
      · rename_i fs hu
        cases hf : fs[f]? with
        | none => rw [hf] at hp; cases hp
        | some fd =>
          rw [hf] at hp; simp only [Option.map_some, Option.some.injEq] at hp; subst hp
          obtain ⟨v, v', h1, h2, h3⟩ := partW_ok hk hcs w
          refine .pure h (v' := v') ?_ h2 h3
          simp only [Instr.field, Sem.run_bind, run_underlying hu, Result.andThen_ok, hf, asAgg, Sem.run_pure, h1]
      · cases hp
  · exact hw.elim

/-! ### Indexes -/
def indexAddrW (P : Program) (t : TypeId) (a ix : Value) (H : AHeap) (K : Value → AHeap → Prop) : Prop :=
  match ix with
  | .int _ n =>
    match P.underlying t with
    | some (.array len e) =>
      (match a with
      | .pointer (some ⟨i, off, none⟩) => wth (tS P e) fun s => (0 ≤ n ∧ n < len) ∧ K (.pointer (some ⟨i, off + n.toNat * s, none⟩)) H
      | _ => False)
    | some (.slice e) =>
      (match a with
      | .slice (some ⟨i, off, none⟩) len _ => wth (tS P e) fun s => (0 ≤ n ∧ n < len) ∧ K (.pointer (some ⟨i, off + n.toNat * s, none⟩)) H
      | _ => False)
    | _ => False
  | _ => False

theorem indexAddrW_ok {P : Program} {t : TypeId} {c : Ctx} {H : AHeap} {w : World} {K : Value → AHeap → Prop} (h : HRel c H w) {a a' x x' : Value} (ha : VRel c a a') (hx : VRel c x x') (hw : indexAddrW P t a x H K) : Gives P (Instr.indexAt t a' x') c H w K := by
  unfold indexAddrW at hw
  split at hw
  · cases hx
    split at hw
    · rename_i len e hu
      split at hw
      · obtain ⟨s, hs, hb, hk⟩ := wth_elim hw
        cases ha with
        | ptr hc =>
          refine .pure h (v' := _) ?_ (.ptr hc) hk
          simp only [Instr.indexAt, asIntOf, Sem.run_bind, Sem.run_pure, Result.andThen_ok, run_underlying hu, Instr.sureAddr, hb, and_self, if_true, run_sizeOf hs, addr_add, Nat.add_assoc]
      · exact hw.elim
    · rename_i e hu
      split at hw
      · obtain ⟨s, hs, hb, hk⟩ := wth_elim hw
        cases ha with
        | slice hc =>
          refine .pure h (v' := _) ?_ (.ptr hc) hk
          simp only [Instr.indexAt, asIntOf, Sem.run_bind, Sem.run_pure, Result.andThen_ok, run_underlying hu, hb, and_self, if_true, run_sizeOf hs, addr_add, Nat.add_assoc]
        | sliceX hc hsx =>
          refine .pure h (v' := _) ?_ (.ptr hc) hk
          simp only [Instr.indexAt, asIntOf, Sem.run_bind, Sem.run_pure, Result.andThen_ok, run_underlying hu, hb, and_self, if_true, run_sizeOf hs, addr_add, Nat.add_assoc]
        | sliceZ hc => omega
      · exact hw.elim
    · exact hw.elim
  · exact hw.elim

def indexW (P : Program) (t : TypeId) (a ix : Value) (H : AHeap) (K : Value → AHeap → Prop) : Prop :=
  match ix with
  | .int _ n =>
    match P.underlying t with
    | some (.array len e) =>
      (match a with
      | .agg ⟨cs⟩ => wth (tS P e) fun s => (0 ≤ n ∧ n < len) ∧ partW P e cs (n.toNat * s) fun v => K v H
      | _ => False)
    | some .string =>
      (match a with
      | .string s => 0 ≤ n ∧ wth s.data.toList[n.toNat]? fun b => K (.int .u8 b.toNat) H
      | _ => False)
    | _ => False
  | _ => False

theorem indexW_ok {P : Program} {t : TypeId} {c : Ctx} {H : AHeap} {w : World} {K : Value → AHeap → Prop} (h : HRel c H w) {a a' x x' : Value} (ha : VRel c a a') (hx : VRel c x x') (hw : indexW P t a x H K) : Gives P (Instr.index t a' x') c H w K := by
  unfold indexW at hw
  split at hw
  · rename_i q n
    cases hx
    split at hw
    · rename_i len e hu
      split at hw
      · obtain ⟨s, hs, hb, hk⟩ := wth_elim hw
        cases ha with
        | agg hcs =>
          obtain ⟨v, v', h1, h2, h3⟩ := partW_ok hk hcs w
          refine .pure h (v' := v') ?_ h2 h3
          simp only [Instr.index, asIntOf, Sem.run_bind, Sem.run_pure, Result.andThen_ok, run_underlying hu, hb, and_self, if_true, run_sizeOf hs, h1]
      · exact hw.elim
    · rename_i hu
      split at hw
      · rename_i s
        obtain ⟨h0, hw⟩ := hw
        obtain ⟨b, hb, hk⟩ := wth_elim hw
        cases ha
        refine .pure h (v' := .int .u8 b.toNat) ?_ (.int _ _) hk
        have hlt : n.toNat < s.size := by have := (List.getElem?_eq_some_iff.1 hb).1; simpa using this
        have hg : s[n.toNat]? = some b := by
          rw [getElem?_pos s n.toNat hlt]
          have := (List.getElem?_eq_some_iff.1 hb).2
          rw [← this]
          rfl
        simp only [Instr.index, asIntOf, Sem.run_bind, Sem.run_pure, Result.andThen_ok, run_underlying hu, h0, if_true, hg]
      · exact hw.elim
    · exact hw.elim
  · exact hw.elim

/-! ### Slices -/
def lowOf : Option Value → Option Int
  | none => some 0
  | some (.int _ n) => some n
  | _ => none
def highOf (d : Nat) : Option Value → Option Int
  | none => some d
  | some (.int _ n) => some n
  | _ => none

def tight (H : AHeap) (i s : Nat) : Prop :=
  match H[i]? with
  | some (.cells _ k) => k.esz = s ∨ k.esz = 0
  | _ => False

def sliceW (P : Program) (t : TypeId) (a : Value) (lo hi mx : Option Value) (H : AHeap) (K : Value → AHeap → Prop) : Prop :=
  match P.underlying t with
  | some .string =>
    (match a, mx with
    | .string s, none => wth (lowOf lo) fun l => wth (highOf s.size hi) fun h => (0 ≤ l ∧ l ≤ h ∧ h ≤ s.size) ∧ K (.string (s.extract l.toNat h.toNat)) H
    | _, _ => False)
  | some (.slice e) =>
    (match a with
    | .slice none len cap => wth (lowOf lo) fun l => wth (highOf len hi) fun h => wth (highOf cap mx) fun m => (0 ≤ l ∧ l ≤ h ∧ h ≤ m ∧ m ≤ cap) ∧ (mx.isSome = true → hi.isSome = true) ∧ (tS P e).isSome = true ∧ K (.slice none (h.toNat - l.toNat) (m.toNat - l.toNat)) H
    | .slice (some ⟨i, off, none⟩) len cap => wth (tS P e) fun s => wth (lowOf lo) fun l => wth (highOf len hi) fun h =>
        (match mx with
        | none => (0 ≤ l ∧ l ≤ h ∧ h ≤ cap) ∧ tight H i s ∧ K (.slice (some ⟨i, off + l.toNat * s, none⟩) (h.toNat - l.toNat) (cap - l.toNat)) H
        | some (.int _ m) => (0 ≤ l ∧ l ≤ h ∧ h ≤ m ∧ m ≤ cap) ∧ hi.isSome = true ∧ K (.slice (some ⟨i, if m = l then off else off + l.toNat * s, none⟩) (h.toNat - l.toNat) (m.toNat - l.toNat)) H
        | _ => False)
    | _ => False)
  | some (.array n e) =>
    (match a, mx with
    | .pointer (some ⟨i, off, none⟩), none => wth (tS P e) fun s => wth (lowOf lo) fun l => wth (highOf n hi) fun h =>
        (0 ≤ l ∧ l ≤ h ∧ h ≤ n) ∧ K (.slice (some ⟨i, off + l.toNat * s, none⟩) (h.toNat - l.toNat) (n - l.toNat)) H
    | _, _ => False)
  | _ => False

/-- Bounds that are related. -/
inductive ORels (c : Ctx) : Option Value → Option Value → Prop
  | none : ORels c .none .none
  | some {v v' : Value} : VRel c v v' → ORels c (.some v) (.some v')

theorem run_bound {P : Program} {k : IntKind} {n : Int} {y : Nat} {cd : BoundsCode} (h : 0 ≤ n ∧ n ≤ y) (w : World) : (Instr.sliceBound (.int k n) y cd).run P w = .ok n.toNat w := by
  simp [Instr.sliceBound, asIntOf, h]

theorem run_bounds {P : Program} {c : Ctx} {b : Bool} {len cap : Nat} {lo hi mx lo' hi' mx' : Option Value} (hl : ORels c lo lo') (hh : ORels c hi hi') (hm : ORels c mx mx') {l h m : Int}
    (el : lowOf lo = some l) (eh : highOf len hi = some h) (em : highOf cap mx = some m) (hb : 0 ≤ l ∧ l ≤ h ∧ h ≤ m ∧ m ≤ cap) (hx : mx.isSome = true → hi.isSome = true) (w : World) :
    (Instr.sliceBounds b len cap lo' hi' mx').run P w = .ok (l.toNat, h.toNat, m.toNat) w := by
  obtain ⟨b1, b2, b3, b4⟩ := hb
  have int_of : ∀ {v v' : Value}, VRel c v v' → ∀ {n : Int}, lowOf (some v) = some n → ∃ k, v' = .int k n := by
    intro v v' hv n e; cases hv <;> simp [lowOf] at e; subst e; exact ⟨_, rfl⟩
  have int_of' : ∀ {v v' : Value}, VRel c v v' → ∀ {n : Int} {d : Nat}, highOf d (some v) = some n → ∃ k, v' = .int k n := by
    intro v v' hv n d e; cases hv <;> simp [highOf] at e; subst e; exact ⟨_, rfl⟩
  cases hm with
  | none =>
    simp [highOf] at em; subst em
    cases hh with
    | none =>
      simp [highOf] at eh; subst eh
      simp only [Instr.sliceBounds, pure_bind]
      cases hl with
      | none => simp [lowOf] at el; subst el; rfl
      | some hv3 =>
        obtain ⟨k3, rfl⟩ := int_of hv3 el
        show Sem.run P (Instr.sliceBound (.int k3 l) _ _ >>= fun l => pure (l, _, _)) w = _
        rw [Sem.run_bind, run_bound ⟨b1, by omega⟩ w]
        rfl
    | some hv =>
      obtain ⟨k, rfl⟩ := int_of' hv eh
      simp only [Instr.sliceBounds, pure_bind]
      rw [Sem.run_bind, run_bound ⟨by omega, by omega⟩ w]
      simp only [Result.andThen_ok]
      cases hl with
      | none => simp [lowOf] at el; subst el; rfl
      | some hv3 =>
        obtain ⟨k3, rfl⟩ := int_of hv3 el
        show Sem.run P (Instr.sliceBound (.int k3 l) _ _ >>= fun l => pure (l, _, _)) w = _
        rw [Sem.run_bind, run_bound ⟨b1, by omega⟩ w]
        rfl
  | some hv =>
    obtain ⟨k, rfl⟩ := int_of' hv em
    cases hh with
    | none => simp at hx
    | some hv2 =>
      obtain ⟨k2, rfl⟩ := int_of' hv2 eh
      simp only [Instr.sliceBounds]
      rw [Sem.run_bind, run_bound ⟨by omega, by omega⟩ w]
      simp only [Result.andThen_ok]
      rw [Sem.run_bind, run_bound ⟨by omega, by omega⟩ w]
      simp only [Result.andThen_ok]
      cases hl with
      | none => simp [lowOf] at el; subst el; rfl
      | some hv3 =>
        obtain ⟨k3, rfl⟩ := int_of hv3 el
        show Sem.run P (Instr.sliceBound (.int k3 l) _ _ >>= fun l => pure (l, _, _)) w = _
        rw [Sem.run_bind, run_bound ⟨b1, by omega⟩ w]
        rfl

theorem sliceW_ok {P : Program} {t : TypeId} {c : Ctx} {H : AHeap} {w : World} {K : Value → AHeap → Prop} (h : HRel c H w) {a a' : Value} {lo hi mx lo' hi' mx' : Option Value} (ha : VRel c a a') (hl : ORels c lo lo') (hh : ORels c hi hi') (hm : ORels c mx mx')
    (hw : sliceW P t a lo hi mx H K) : Gives P (Instr.sliceAt t a' lo' hi' mx') c H w K := by
  unfold sliceW at hw
  split at hw
  · rename_i hu
    split at hw
    · rename_i s
      obtain ⟨l, el, hw⟩ := wth_elim hw
      obtain ⟨h1, eh, hb, hk⟩ := wth_elim hw
      cases ha; cases hm
      refine .pure h (v' := _) ?_ (.string _) hk
      have := run_bounds (P := P) (b := false) (len := s.size) (cap := s.size) (m := s.size) hl hh (.none (c := c)) el eh rfl ⟨hb.1, hb.2.1, hb.2.2, by omega⟩ (by simp) w
      simp only [Instr.sliceAt, Instr.slice, Sem.run_bind, run_underlying hu, Result.andThen_ok, Option.isSome_none, Bool.false_eq_true, if_false, this, Sem.run_pure]
    · exact hw.elim
  · rename_i e hu
    split at hw
    · rename_i len cap
      obtain ⟨l, el, hw⟩ := wth_elim hw
      obtain ⟨h1, eh, hw⟩ := wth_elim hw
      obtain ⟨m, em, hb, hx, hs, hk⟩ := wth_elim hw
      obtain ⟨s, hs⟩ := Option.isSome_iff_exists.1 hs
      cases ha
      refine .pure h (v' := .slice none (h1.toNat - l.toNat) (m.toNat - l.toNat)) ?_ (.nilSlice _ _) hk
      have := run_bounds (P := P) (b := true) hl hh hm el eh em hb hx w
      simp only [Instr.sliceAt, Instr.slice, Sem.run_bind, run_underlying hu, Result.andThen_ok, this, Sem.run_pure, run_sizeOf hs]
      simp
    · rename_i i off len cap
      obtain ⟨s, hs, hwa⟩ := wth_elim hw
      clear hw
      obtain ⟨l, el, hwb⟩ := wth_elim hwa
      clear hwa
      obtain ⟨h1, eh, hw⟩ := wth_elim hwb
      clear hwb
      split at hw
      · obtain ⟨hb, ht, hk⟩ := hw
        cases hm
        cases ha with
        | slice hc =>
          rename_i p
          have := run_bounds (P := P) (b := true) (len := len) (cap := cap) (m := cap) hl hh (.none (c := c)) el eh rfl ⟨hb.1, hb.2.1, hb.2.2, by omega⟩ (by simp) w
          by_cases hml : cap = l.toNat
          · refine .pure h (v' := .slice (some ⟨p.block, p.base + off, none⟩) (h1.toNat - l.toNat) (cap - l.toNat)) ?_ ?_ hk
            · simp only [Instr.sliceAt, Instr.slice, Sem.run_bind, run_underlying hu, Result.andThen_ok, this, Sem.run_pure, run_sizeOf hs, Int.toNat_natCast]
              rw [if_pos hml]
            · have e1 : h1.toNat - l.toNat = 0 := by omega
              have e2 : cap - l.toNat = 0 := by omega
              rw [e1, e2]; exact .sliceZ hc
          · refine .pure h (v' := .slice (some ⟨p.block, p.base + (off + l.toNat * s), none⟩) (h1.toNat - l.toNat) (cap - l.toNat)) ?_ (.slice hc) hk
            simp only [Instr.sliceAt, Instr.slice, Sem.run_bind, run_underlying hu, Result.andThen_ok, this, Sem.run_pure, run_sizeOf hs]
            simp [hml, addr_add, Nat.add_assoc]
        | sliceX hc hsx =>
          rename_i p
          unfold tight at ht
          split at ht
          · rename_i cs k hi
            obtain ⟨q, hq, hr⟩ := h.obj i _ hi rfl
            rw [hc] at hq; cases hq
            obtain ⟨r1, r2, r3, _⟩ := hr
            have := run_bounds (P := P) (b := true) (len := len) (cap := cap + p.extra) (m := (cap + p.extra : Nat)) hl hh (.none (c := c)) el eh rfl ⟨hb.1, hb.2.1, by omega, by omega⟩ (by simp) w
            by_cases hml : cap + p.extra = l.toNat
            · refine .pure h (v' := .slice (some ⟨p.block, p.base + off, none⟩) (h1.toNat - l.toNat) (cap + p.extra - l.toNat)) ?_ ?_ hk
              · simp only [Instr.sliceAt, Instr.slice, Sem.run_bind, run_underlying hu, Result.andThen_ok, this, Sem.run_pure, run_sizeOf hs, Int.toNat_natCast]
                rw [if_pos hml]
              · have e1 : h1.toNat - l.toNat = 0 := by omega
                have e2 : cap - l.toNat = 0 := by omega
                have e3 : cap + p.extra - l.toNat = 0 := by omega
                rw [e1, e2, e3]; exact .sliceZ hc
            · refine .pure h (v' := .slice (some ⟨p.block, p.base + (off + l.toNat * s), none⟩) (h1.toNat - l.toNat) (cap - l.toNat + p.extra)) ?_ ?_ hk
              · simp only [Instr.sliceAt, Instr.slice, Sem.run_bind, run_underlying hu, Result.andThen_ok, this, Sem.run_pure, run_sizeOf hs]
                simp only [Int.toNat_natCast, hml, if_false, Option.map_some, addr_add, Nat.add_assoc]
                congr 2; omega
              · rcases ht with ht | ht
                · refine .sliceX hc ?_
                  have : l.toNat ≤ cap := by omega
                  rw [r2, ht] at hsx ⊢
                  rw [← hsx, Nat.add_assoc, ← Nat.add_mul]
                  congr 2; omega
                · have hz := r3 ht
                  rw [hz]
                  exact .slice hc
          · exact ht.elim
        | @sliceZ _ _ b x p hc =>
          have := run_bounds (P := P) (b := true) (len := 0) (cap := 0) (m := (0 : Nat)) hl hh (.none (c := c)) el eh rfl ⟨hb.1, hb.2.1, hb.2.2, by omega⟩ (by simp) w
          refine .pure h (v' := .slice (some ⟨b, x, none⟩) 0 0) ?_ ?_ hk
          · simp only [Instr.sliceAt, Instr.slice, Sem.run_bind, run_underlying hu, Result.andThen_ok, this, Sem.run_pure, run_sizeOf hs]
            have e1 : l.toNat = 0 := by omega
            have e2 : h1.toNat = 0 := by omega
            simp [e1, e2]
          · have e1 : h1.toNat - l.toNat = 0 := by omega
            rw [e1]; simp only [Nat.zero_sub]; exact .sliceZ hc
      · rename_i q m
        obtain ⟨hb, hx, hk⟩ := hw
        have hmv : ∀ cap', cap ≤ cap' → (Instr.sliceBounds true len cap' lo' hi' mx').run P w = .ok (l.toNat, h1.toNat, m.toNat) w := fun cap' hc' =>
          run_bounds (P := P) (b := true) hl hh hm el eh rfl ⟨hb.1, hb.2.1, hb.2.2.1, by omega⟩ (fun _ => hx) w
        have key : ∀ cap' (p : Place), cap ≤ cap' → c i = some p → Gives P (Instr.sliceAt t (.slice (some ⟨p.block, p.base + off, none⟩) len cap') lo' hi' mx') c H w K := fun cap' p hcap hc => by
          refine .pure h (v' := .slice (some ⟨p.block, p.base + (if m = l then off else off + l.toNat * s), none⟩) (h1.toNat - l.toNat) (m.toNat - l.toNat)) ?_ (.slice hc) hk
          simp only [Instr.sliceAt, Instr.slice, Sem.run_bind, run_underlying hu, Result.andThen_ok, hmv cap' hcap, Sem.run_pure, run_sizeOf hs]
          have e : (m.toNat = l.toNat) ↔ (m = l) := by omega
          by_cases hml : m = l
          · simp [hml]
          · simp [hml, e, addr_add, Nat.add_assoc]
        cases ha with
        | slice hc => exact key cap _ (Nat.le_refl _) hc
        | sliceX hc hsx => exact key _ _ (by omega) hc
        | @sliceZ _ _ b x p hc =>
          have e0 : m.toNat = 0 := by omega
          have e1 : l.toNat = 0 := by omega
          have e2 : h1.toNat = 0 := by omega
          refine .pure h (v' := .slice (some ⟨b, x, none⟩) 0 0) ?_ ?_ hk
          · simp only [Instr.sliceAt, Instr.slice, Sem.run_bind, run_underlying hu, Result.andThen_ok, hmv 0 (by omega), Sem.run_pure, run_sizeOf hs]
            simp [e0, e1, e2]
          · rw [e0, e1, e2]; exact .sliceZ hc
      · exact hw.elim
    · exact hw.elim
  · rename_i n e hu
    split at hw
    · rename_i i off
      obtain ⟨s, hs, hw⟩ := wth_elim hw
      obtain ⟨l, el, hw⟩ := wth_elim hw
      obtain ⟨h1, eh, hb, hk⟩ := wth_elim hw
      cases hm
      cases ha with
      | ptr hc =>
        rename_i p
        have := run_bounds (P := P) (b := false) (len := n) (cap := n) (m := n) hl hh (.none (c := c)) el eh rfl ⟨hb.1, hb.2.1, hb.2.2, by omega⟩ (by simp) w
        by_cases hml : n = l.toNat
        · refine .pure h (v' := .slice (some ⟨p.block, p.base + off, none⟩) (h1.toNat - l.toNat) (n - l.toNat)) ?_ ?_ hk
          · simp only [Instr.sliceAt, Sem.run_bind, run_underlying hu, Result.andThen_ok, Instr.sureAddr, this, Sem.run_pure, run_sizeOf hs, Int.toNat_natCast]
            rw [if_pos hml]
          · have e1 : h1.toNat - l.toNat = 0 := by omega
            have e2 : n - l.toNat = 0 := by omega
            rw [e1, e2]; exact .sliceZ hc
        · refine .pure h (v' := .slice (some ⟨p.block, p.base + (off + l.toNat * s), none⟩) (h1.toNat - l.toNat) (n - l.toNat)) ?_ (.slice hc) hk
          simp only [Instr.sliceAt, Sem.run_bind, run_underlying hu, Result.andThen_ok, Instr.sureAddr, this, Sem.run_pure, run_sizeOf hs]
          simp [hml, addr_add, Nat.add_assoc]
    · exact hw.elim
  · exact hw.elim
end Go.Aw
