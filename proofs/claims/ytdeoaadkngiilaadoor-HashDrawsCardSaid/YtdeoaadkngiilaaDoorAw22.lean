/-
  The laws of the walk's steps, named as one set for simp.
-/
import Derived.Test.YtdeoaadkngiilaaDoorAw21
set_option linter.unusedVariables false
namespace Go.Aw
/-! ### Operations on whole numbers, each by its name -/
def andI (k : IntKind) (m n : Int) : Int := k.wrap ((BitVec.ofInt k.bits m &&& BitVec.ofInt k.bits n).toNat : Int)
def orI (k : IntKind) (m n : Int) : Int := k.wrap ((BitVec.ofInt k.bits m ||| BitVec.ofInt k.bits n).toNat : Int)
def xorI (k : IntKind) (m n : Int) : Int := k.wrap ((BitVec.ofInt k.bits m ^^^ BitVec.ofInt k.bits n).toNat : Int)
def andNotI (k : IntKind) (m n : Int) : Int := k.wrap ((BitVec.ofInt k.bits m &&& ~~~BitVec.ofInt k.bits n).toNat : Int)
def shlI (k : IntKind) (m n : Int) : Int := k.wrap (m * 2 ^ min n.toNat k.bits)
def shrI (k : IntKind) (m n : Int) : Int := m.fdiv (2 ^ min n.toNat k.bits)
section
variable {k j : IntKind} {m n : Int} {K : Value → Prop}
theorem intW_shl : intW .shl k m j n K = (0 ≤ n ∧ K (.int k (shlI k m n))) := propext Iff.rfl
theorem intW_shr : intW .shr k m j n K = (0 ≤ n ∧ K (.int k (shrI k m n))) := propext Iff.rfl
theorem intW_add : intW .add k m k n K = K (.int k (k.wrap (m + n))) := propext ⟨fun h => h.2, fun h => ⟨rfl, h⟩⟩
theorem intW_sub : intW .sub k m k n K = K (.int k (k.wrap (m - n))) := propext ⟨fun h => h.2, fun h => ⟨rfl, h⟩⟩
theorem intW_mul : intW .mul k m k n K = K (.int k (k.wrap (m * n))) := propext ⟨fun h => h.2, fun h => ⟨rfl, h⟩⟩
theorem intW_quo : intW .quo k m k n K = (n ≠ 0 ∧ K (.int k (k.wrap (m.tdiv n)))) := propext ⟨fun h => h.2, fun h => ⟨rfl, h⟩⟩
theorem intW_rem : intW .rem k m k n K = (n ≠ 0 ∧ K (.int k (m.tmod n))) := propext ⟨fun h => h.2, fun h => ⟨rfl, h⟩⟩
theorem intW_and : intW .and k m k n K = K (.int k (andI k m n)) := propext ⟨fun h => h.2, fun h => ⟨rfl, h⟩⟩
theorem intW_or : intW .or k m k n K = K (.int k (orI k m n)) := propext ⟨fun h => h.2, fun h => ⟨rfl, h⟩⟩
theorem intW_xor : intW .xor k m k n K = K (.int k (xorI k m n)) := propext ⟨fun h => h.2, fun h => ⟨rfl, h⟩⟩
theorem intW_andNot : intW .andNot k m k n K = K (.int k (andNotI k m n)) := propext ⟨fun h => h.2, fun h => ⟨rfl, h⟩⟩
theorem intW_eql : intW .eql k m k n K = K (.bool (m == n)) := propext ⟨fun h => h.2, fun h => ⟨rfl, h⟩⟩
theorem intW_neq : intW .neq k m k n K = K (.bool (m != n)) := propext ⟨fun h => h.2, fun h => ⟨rfl, h⟩⟩
theorem intW_lss : intW .lss k m k n K = K (.bool (decide (m < n))) := propext ⟨fun h => h.2, fun h => ⟨rfl, h⟩⟩
theorem intW_leq : intW .leq k m k n K = K (.bool (decide (m ≤ n))) := propext ⟨fun h => h.2, fun h => ⟨rfl, h⟩⟩
theorem intW_gtr : intW .gtr k m k n K = K (.bool (decide (m > n))) := propext ⟨fun h => h.2, fun h => ⟨rfl, h⟩⟩
theorem intW_geq : intW .geq k m k n K = K (.bool (decide (m ≥ n))) := propext ⟨fun h => h.2, fun h => ⟨rfl, h⟩⟩
end
def tSl (P : Program) (t : TypeId) : Bool := match P.underlying t with | some (.slice _) => true | _ => false
def tMp (P : Program) (t : TypeId) : Bool := match P.underlying t with | some (.map _ _) => true | _ => false
def tAr (P : Program) (t : TypeId) (n : Nat) : Prop := match P.underlying t with | some (.array m _) => m = n | _ => False
theorem lenW_sl {P : Program} {t : TypeId} {a : Option Addr} {n c : Nat} {H : AHeap} {K : Value → AHeap → Prop} (h : tSl P t = true) : lenW P t (.slice a n c) H K = K (.int .i64 (n : Nat)) H := by
  unfold tSl at h; split at h
  · rename_i hu; simp [lenW, hu]
  · cases h
theorem lenW_mn {P : Program} {t : TypeId} {H : AHeap} {K : Value → AHeap → Prop} (h : tMp P t = true) : lenW P t (.map none) H K = K (.int .i64 (0 : Nat)) H := by
  unfold tMp at h; split at h
  · rename_i hu; simp [lenW, hu]
  · cases h
theorem lenW_mp {P : Program} {t : TypeId} {i : Nat} {H : AHeap} {K : Value → AHeap → Prop} (h : tMp P t = true) : lenW P t (.map (some i)) H K = (match H[i]? with | some (.amap es _ _) => K (.int .i64 es.length) H | _ => False) := by
  unfold tMp at h; split at h
  · rename_i hu; simp [lenW, hu]; rfl
  · cases h
attribute [go_sem ↓] regionW_nil regionW_go regionW_if gstep_tt gstep_ff gstep_tf gstep_ft gstep_no op_move op_assign op_alloc op_box op_build op_buildSlice op_load op_store op_binOp op_unOp op_convert op_makeInterface op_makeFunc op_makeSlice op_slice op_fieldAddr op_field op_indexAddr op_index op_typeAssert op_extract op_callV op_callB op_callI op_pick op_panic op_nilCheck op_makeMap op_lookup op_mapEntry op_mapUpdate op_insert op_entryStore pickW_t pickW_f pickW_b panW_i nilW_p nilW_f nilW_i wth_so kv_go put_so put_no next_n next_e next_g next_r next_p inB_n inB_e inB_g inB_r inB_p resK_r resK_p lenW_bs strW_eql strW_neq strW_lss strW_leq strW_gtr strW_geq strW_add
attribute [go_sem] lookupW makeMapW mapUpdateW mapEntryW entryStoreW deleteW lkRes keyB keysB wantW gd invokeW ev evs evP evO lk_co lk_nil noVal plain scalar List.all_cons List.all_nil Bool.and_true Bool.true_and Bool.and_self List.cons_append List.nil_append List.append_nil List.append_assoc List.getElem?_cons_zero List.getElem?_cons_succ List.getElem?_nil List.set_cons_zero List.set_cons_succ Option.bind_some Option.map_some argEnv Nat.zero_add Nat.add_zero true_implies false_implies decide_true decide_false Bool.not_true Bool.not_false Bool.true_eq_false ne_eq not_true_eq_false not_false_eq_true and_true true_and builtinW tSl tMp lenW_sl lenW_mn lenW_mp bs_toList' binW_int binW_str binW_bool_eql binW_bool_neq binW_agg_eql binW_agg_neq binW_slice_eql binW_slice_neq eqV_bool eqV_int eqV_sn eqV_nn eqV_ns unW_not unW_neg unW_xor fillL placeOf bne_self_eq_false beq_self_eq_true Int.cast_ofNat_Int Int.natCast_zero Nat.le_refl intW_shl intW_shr intW_add intW_sub intW_mul intW_quo intW_rem intW_and intW_or intW_xor intW_andNot intW_eql intW_neq intW_lss intW_leq intW_gtr intW_geq strW callV FPost LeaveW resV packV0 packV1 packV2 extractW loadW storeW indexW indexAddrW convW fieldW fieldAddrW partW buildW allocW boxW restrict reads Op.operands tmpOf ASt.only stepW Option.toList List.filterMap_cons List.filterMap_nil hget0 hgetk hset0 hsetk List.length_append List.length_cons List.length_nil List.length_set Nat.add_assoc Option.some.injEq forall_eq' List.take_succ_cons List.take_zero List.drop_succ_cons List.drop_zero Nat.mul_one ownW Bool.false_eq_true cellsOf_int cellsOf_bool cellsOf_string cellsOf_agg cellsOf_pointer cellsOf_slice cellsOf_map cellsOf_func cellsOf_nilFunc cellsOf_iface cellsOf_nilIface putCells flat quietW mkB repZ1 appendW srcW buildSliceW sliceW lowOf highOf bs_size bs_extract Int.toNat_zero AObj.loop.injEq roundQ endR loopK exists_eq_left' and_assoc exists_and_left exists_const Call.operands Int.toNat_natCast Int.natCast_nonneg Array.toList_append bytesC_length bytesC_set bytesC_take bytesC_drop bytesC_append bytesC_nil u8s_bytesC
theorem andI_n8 (a b : Nat) (ha : a < 256) (hb : b < 256) : andI .u8 (a : Int) (b : Int) = ((a &&& b : Nat) : Int) := bw8_and a b ha hb
theorem orI_n8 (a b : Nat) (ha : a < 256) (hb : b < 256) : orI .u8 (a : Int) (b : Int) = ((a ||| b : Nat) : Int) := bw8_or a b ha hb
theorem xorI_n8 (a b : Nat) (ha : a < 256) (hb : b < 256) : xorI .u8 (a : Int) (b : Int) = ((a ^^^ b : Nat) : Int) := bw8_xor a b ha hb
theorem shrI_n (k : IntKind) (a n : Nat) (h : n ≤ k.bits) : shrI k (a : Int) (n : Int) = ((a / 2 ^ n : Nat) : Int) := by
  unfold shrI; rw [Int.toNat_natCast, Nat.min_eq_left h, fdiv_pow]
theorem shlI_n8 (n : Nat) (h : n < 8) : shlI .u8 1 (n : Int) = ((2 ^ n : Nat) : Int) := by
  unfold shlI; rw [Int.toNat_natCast]; exact bw8_shl n h
/-- A bit of a byte, shifted down. -/
theorem bit8 (x : UInt8) (n : Nat) (h : n < 8) : (andI .u8 (shrI .u8 (x.toNat : Int) (n : Int)) 1 == 1) = x.toNat.testBit n := by
  unfold andI shrI; rw [Int.toNat_natCast]; exact bw8_shr_bit x n h
end Go.Aw
