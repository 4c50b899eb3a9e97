/-
  Nodes: what is packed is read back.
-/
import Derived.Test.YtdbdnknnaekbhaaNK
set_option linter.unusedVariables false
set_option linter.unusedSimpArgs false
namespace Go.Proofs.Ytdbdnknnaekbhaa
open Go Go.Aw Go.Proofs
theorem packL_len {a : Ad} (h : a.ok = true) : (packL a).length = if a.fam = 4 then 6 else 18 := by
  obtain ⟨h3, -⟩ := ok_fam h
  simp only [packL, List.length_append, List.length_cons, List.length_nil]
  rcases h3 with ⟨h1, h2⟩ | ⟨h1, h2⟩
  · rw [h1, h2]; rfl
  · rw [h1, h2]; rfl
theorem adOf_pack {a : Ad} (h : a.ok = true) : adOf (packL a) = a := by
  obtain ⟨h3, p1, p2⟩ := ok_fam h
  have hl := packL_len h
  have hll : (packL a).length = a.ip.length + 2 := by simp [packL]
  obtain ⟨f, ip, p⟩ := a
  simp only at h3 p1 p2 hl hll
  obtain ⟨n, rfl⟩ : ∃ n : Nat, p = (n : Int) := ⟨p.toNat, by omega⟩
  unfold adOf
  rw [hll]
  have e1 : (packL ⟨f, ip, (n : Int)⟩).take (ip.length + 2 - 2) = ip := by
    unfold packL
    simp
  have e2 : (packL ⟨f, ip, (n : Int)⟩).getD (ip.length + 2 - 2) 0 = UInt8.ofNat (n / 256) := by
    unfold packL
    simp [List.getD_eq_getElem?_getD]
  have e3 : (packL ⟨f, ip, (n : Int)⟩).getD (ip.length + 2 - 1) 0 = UInt8.ofNat (n % 256) := by
    unfold packL
    simp [List.getD_eq_getElem?_getD, List.getElem?_append_right]
  rw [e1, e2, e3]
  have e4 : (UInt8.ofNat (n / 256)).toNat = n / 256 := by rw [UInt8.toNat_ofNat']; exact Nat.mod_eq_of_lt (by omega)
  have e5 : (UInt8.ofNat (n % 256)).toNat = n % 256 := by rw [UInt8.toNat_ofNat']; exact Nat.mod_eq_of_lt (by omega)
  rw [e4, e5]
  congr 1
  · rcases h3 with ⟨h1, h2⟩ | ⟨h1, h2⟩
    · rw [h2, h1]; rfl
    · rw [h2, h1]; rfl
  · omega
def joinN (l : List Nd) : List UInt8 := l.flatMap fun x => x.id ++ packL x.a
theorem pkL_join (f : Bool) (l : List Nd) : pkL f l = joinN (l.filter fun x => (x.a.fam == 4) == f) := by
  induction l with
  | nil => rfl
  | cons x r ih =>
    simp only [pkL, List.filter_cons]
    by_cases h : (x.a.fam == 4) = f
    · rw [if_pos h, if_pos (by rw [h]; simp), ih]
      simp [joinN]
    · rw [if_neg h, if_neg (by simpa using h), ih]
theorem joinN_drop (sz : Nat) : ∀ (l : List Nd) (h : ∀ x ∈ l, (x.id ++ packL x.a).length = sz) (j : Nat), (joinN l).drop (j * sz) = joinN (l.drop j)
  | [], _, j => by simp [joinN]
  | x :: r, h, 0 => by simp
  | x :: r, h, j + 1 => by
    have h1 := h x (List.mem_cons_self ..)
    have e : joinN (x :: r) = (x.id ++ packL x.a) ++ joinN r := rfl
    rw [e, List.drop_succ_cons, Nat.add_mul, Nat.one_mul, Nat.add_comm, ← List.drop_drop, ← h1, List.drop_left]
    rw [h1]
    exact joinN_drop sz r (fun y hy => h y (List.mem_cons_of_mem _ hy)) j
theorem joinN_len (sz : Nat) : ∀ (l : List Nd) (h : ∀ x ∈ l, (x.id ++ packL x.a).length = sz), (joinN l).length = l.length * sz
  | [], _ => by simp [joinN]
  | x :: r, h => by
    have h1 := h x (List.mem_cons_self ..)
    have e : joinN (x :: r) = (x.id ++ packL x.a) ++ joinN r := rfl
    rw [e, List.length_append, h1, joinN_len sz r fun y hy => h y (List.mem_cons_of_mem _ hy), List.length_cons, Nat.add_mul]; omega
theorem nd_read (sz : Nat) (l : List Nd) (hok : ∀ x ∈ l, x.ok = true) (hsz : ∀ x ∈ l, (x.id ++ packL x.a).length = sz) (j : Nat) (hj : j < l.length) : ndAt sz (joinN l) j = l[j] := by
  have hx := hok l[j] (List.getElem_mem _)
  have hs := hsz l[j] (List.getElem_mem _)
  unfold Nd.ok at hx
  simp only [Bool.and_eq_true, decide_eq_true_eq] at hx
  have hd := joinN_drop sz l hsz j
  have e : l.drop j = l[j] :: l.drop (j + 1) := List.drop_eq_getElem_cons hj
  have e2 : joinN (l.drop j) = l[j].id ++ (packL l[j].a ++ joinN (l.drop (j + 1))) := by
    rw [e]
    show (l[j].id ++ packL l[j].a) ++ joinN _ = _
    rw [List.append_assoc]
  rw [e2] at hd
  generalize l[j] = x at *
  unfold ndAt
  rw [← List.drop_drop, hd]
  have e3 : (x.id ++ (packL x.a ++ joinN (l.drop (j + 1)))).take 20 = x.id := by
    rw [← hx.1]
    exact List.take_left
  have e4 : (x.id ++ (packL x.a ++ joinN (l.drop (j + 1)))).drop 20 = packL x.a ++ joinN (l.drop (j + 1)) := by
    rw [← hx.1]
    exact List.drop_left
  have e5 : sz - 20 = (packL x.a).length := by
    rw [List.length_append] at hs
    omega
  rw [e3, e4, e5, List.take_left, adOf_pack hx.2]
theorem un_join (f : Int) (l : List Nd) (hok : ∀ x ∈ l, x.ok = true) (hf : ∀ x ∈ l, x.a.fam = f) (h46 : f = 4 ∨ f = 6) : unE (joinN l) f = 0 ∧ unL (joinN l) f = l := by
  have hs0 : sizeL f = 26 ∨ sizeL f = 38 := by rcases h46 with rfl | rfl <;> simp [sizeL]
  have hsz : ∀ x ∈ l, (x.id ++ packL x.a).length = sizeL f := by
    intro x hx
    have h1 := hok x hx
    unfold Nd.ok at h1
    simp only [Bool.and_eq_true, decide_eq_true_eq] at h1
    have h2 := packL_len h1.2
    rw [List.length_append, h1.1, h2, hf x hx]
    rcases h46 with rfl | rfl <;> simp [sizeL]
  have hlen := joinN_len (sizeL f) l hsz
  have hdiv : (joinN l).length / sizeL f = l.length := by rw [hlen]; exact Nat.mul_div_cancel _ (by omega)
  have hmod : (joinN l).length % sizeL f = 0 := by rw [hlen]; exact Nat.mul_mod_left _ _
  have hbad : (List.range l.length).any (badAt (sizeL f) (joinN l)) = false := by
    rw [Bool.eq_false_iff]
    intro h
    obtain ⟨j, h1, h2⟩ := List.any_eq_true.1 h
    rw [List.mem_range] at h1
    unfold badAt at h2
    rw [nd_read _ l hok hsz j h1] at h2
    have h3 := hok l[j] (List.getElem_mem _)
    unfold Nd.ok at h3
    simp only [Bool.and_eq_true, decide_eq_true_eq] at h3
    obtain ⟨-, h4, -⟩ := ok_fam h3.2
    have := beq_iff_eq.1 h2
    omega
  have hE : unE (joinN l) f = 0 := by
    unfold unE
    rw [if_neg (by omega), if_neg (by omega), hdiv, hbad]; rfl
  refine ⟨hE, ?_⟩
  unfold unL
  rw [if_pos hE, hdiv]
  apply List.ext_getElem
  · simp
  · intro j h1 h2
    rw [List.getElem_map, List.getElem_range]
    exact nd_read _ l hok hsz j h2
end Go.Proofs.Ytdbdnknnaekbhaa
