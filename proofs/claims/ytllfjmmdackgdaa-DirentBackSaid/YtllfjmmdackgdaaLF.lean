/- Plain words: what Decode of entries answers, of the program and of the reference; both ways round. -/
import Derived.Test.YtllfjmmdackgdaaLE
namespace Go.Proofs.Ytllfjmmdackgdaa.PZ
open Go.RowKit Go.Proofs.YtllfjmmdackgdaaW.PrintWords Go.Proofs.YtllfjmmdackgdaaW.PrintLast Go.Proofs.YtllfjmmdackgdaaW.PrintMore Go.Proofs.Ytllfjmmdackgdaa.Ord Go.Proofs.Ytllfjmmdackgdaa.B

theorem rdn (l : List Int) (i : Nat) (h : i < l.length) : rd l (i : Int) = l[i] := by
  unfold rd
  simp [List.getD_eq_getElem?_getD, List.getElem?_eq_getElem h]
/-- rd, where another name would hide it. -/
abbrev rdI (l : List Int) (i : Int) : Int := rd l i
/-- Bytes. -/
def Byt (b : List Int) : Prop := ∀ x ∈ b, 0 ≤ x ∧ x ≤ 255
theorem Byt.rd {b : List Int} (hb : Byt b) (i : Nat) (h : i < b.length) : 0 ≤ rdI b (i : Int) ∧ rdI b (i : Int) ≤ 255 := by
  unfold rdI
  rw [rdn b i h]; exact hb _ (List.getElem_mem h)
theorem Byt.drop {b : List Int} (hb : Byt b) (i : Nat) : Byt (b.drop i) := fun x hx => hb x (List.mem_of_mem_drop hx)
theorem bytes_of {b : List Int} (h : ∀ n ∈ b, (Lit.int .u8 n).wf = true) : Byt b := fun x hx => by
  have := h x hx
  simp only [Lit.wf, Bool.and_eq_true, decide_eq_true_eq] at this
  exact this
theorem or0_all : (List.range 256).all (fun n => or0 (n : Int) == (n : Int)) = true := by decide +kernel
theorem or0_eq {c : Int} (h1 : 0 ≤ c) (h2 : c ≤ 255) : or0 c = c := by
  have h := List.all_eq_true.1 or0_all c.toNat (List.mem_range.2 (by omega))
  rw [beq_iff_eq, show ((c.toNat : Nat) : Int) = c by omega] at h
  exact h
theorem or_join (a b : Nat) (ha : a < 256) : a ||| (256 * b) = a + 256 * b := by
  have := Nat.two_pow_add_eq_or_of_lt (i := 8) (b := a) ha b
  rw [Nat.or_comm, show 256 * b = 2 ^ 8 * b by rfl, ← this]
  omega
theorem wrap_i64_nat (n : Nat) (h : n < 65536) : IntKind.i64.wrap (n : Int) = (n : Int) := by
  have e : (n : Int) % 2 ^ 64 = n := Int.emod_eq_of_lt (by omega) (by omega)
  simp only [IntKind.wrap, IntKind.bits, IntKind.signed, e]
  rw [if_neg]
  simp
  omega
theorem or1_eq {a b : Int} (h1 : 0 ≤ a) (h2 : a ≤ 255) (h3 : 0 ≤ b) (h4 : b ≤ 255) : or1 a b = a + 256 * b := by
  obtain ⟨x, rfl⟩ : ∃ x : Nat, a = x := ⟨a.toNat, by omega⟩
  obtain ⟨y, rfl⟩ : ∃ y : Nat, b = y := ⟨b.toNat, by omega⟩
  unfold or1
  rw [w64 (x := (y : Int)) (by omega) (by omega), w64 (by omega) (by omega)]
  have e1 : (BitVec.ofInt 64 (x : Int)).toNat = x := by
    rw [BitVec.ofInt_natCast, BitVec.toNat_ofNat]; exact Nat.mod_eq_of_lt (by omega)
  have e2 : (BitVec.ofInt 64 ((256 * y : Nat) : Int)).toNat = 256 * y := by
    rw [BitVec.ofInt_natCast, BitVec.toNat_ofNat]; exact Nat.mod_eq_of_lt (by omega)
  rw [show (y : Int) * 256 = ((256 * y : Nat) : Int) by omega]
  show IntKind.i64.wrap ((BitVec.ofInt 64 (x : Int) ||| BitVec.ofInt 64 ((256 * y : Nat) : Int)).toNat : Int) = _
  rw [BitVec.toNat_or, e1, e2, or_join x y (by omega), wrap_i64_nat _ (by omega)]
  omega

/-! ### Decode -/
def entAt (b : List Int) : S24 := ⟨strOfNums ((b.take (3 + (rd b 2).toNat)).drop 3), rd b 0 + 256 * rd b 1⟩
def decP (b : List Int) (out : List S24) : Option (List S24) :=
  if 0 < b.length then
    if 64 < out.length then none
    else if b.length < 3 then none
    else if (b.length : Int) - 3 < rd b 2 then none
    else decP (b.drop (3 + (rd b 2).toNat)) (out ++ [entAt b])
  else if rightB out = true then some out else none
termination_by b.length
decreasing_by simp only [List.length_drop]; omega
def ansP (o : Option (List S24)) : List S24 × Bool := match o with
  | some l => (l, true)
  | none => ([], false)

theorem take_take3 (b : List Int) (n : Nat) : (b.take (3 + n)).drop 3 = (b.drop 3).take n := by
  rw [List.drop_take]; congr 1; omega
theorem dec_l0 : ∀ (d : Nat) (b : List Int) (out : List S24), b.length = d → d < 1000000 → Byt b → out.length ≤ 65 → Ev (fun k => dirent_Decode.l0 k b out) (ansP (decP b out)) := by
  intro d
  induction d using Nat.strongRecOn with
  | _ d ih =>
    intro b out hd hsz hb ho
    have hj : (h : decP b out = if rightB out = true then some out else none) → Ev (fun k => dirent_Decode.j1 k b out false) (ansP (decP b out)) := by
      intro h
      rw [h]
      obtain ⟨K, hK⟩ := right_ev out
      refine ⟨K + 1, fun k hk => ?_⟩
      obtain ⟨m, rfl⟩ : ∃ m, k = m + 1 := ⟨k - 1, by omega⟩
      show dirent_Decode.j1 (m + 1) b out false = _
      simp only [dirent_Decode.j1]
      rw [if_neg (by simp), show dirent_right.f m out = some (rightB out) from hK m (by omega)]
      simp only [Option.bind_some]
      by_cases hr : rightB out = true
      · rw [if_pos hr, if_pos hr]; rfl
      · rw [if_neg hr, if_neg hr]; rfl
    by_cases h0 : 0 < b.length
    · by_cases h64 : 64 < out.length
      · -- full
        have hp : decP b out = none := by rw [decP, if_pos h0, if_pos h64]
        have hrn : rightB out = false := by
          unfold rightB; rw [show decide (out.length ≤ 64) = false from decide_eq_false (by omega)]; rfl
        obtain ⟨K, hK⟩ := hj (by rw [hp, hrn, if_neg Bool.false_ne_true])
        refine ⟨K + 1, fun k hk => ?_⟩
        obtain ⟨m, rfl⟩ : ∃ m, k = m + 1 := ⟨k - 1, by omega⟩
        show dirent_Decode.l0 (m + 1) b out = _
        simp only [dirent_Decode.l0]
        rw [if_pos (by omega), show decide ((out.length : Int) ≤ 64) = false from decide_eq_false (by omega)]
        exact hK m (by omega)
      · by_cases h3 : b.length < 3
        · have hp : decP b out = none := by rw [decP, if_pos h0, if_neg h64, if_pos h3]
          rw [hp]
          refine ⟨2, fun k hk => ?_⟩
          obtain ⟨m, rfl⟩ : ∃ m, k = m + 2 := ⟨k - 2, by omega⟩
          show dirent_Decode.l0 (m + 2) b out = _
          simp only [dirent_Decode.l0]
          rw [if_pos (by omega), show decide ((out.length : Int) ≤ 64) = true from decide_eq_true (by omega)]
          simp only [dirent_Decode.j1]
          have g2 : bits_Get.f b 2 1 = some (0, false) := by
            unfold bits_Get.f
            rw [if_neg (by omega), if_pos ⟨rfl, rfl⟩, if_pos h3]
          obtain ⟨x, hx⟩ : ∃ x, bits_Get.f b 0 2 = some x := by
            unfold bits_Get.f
            rw [if_pos ⟨rfl, rfl⟩]
            split
            · exact ⟨_, rfl⟩
            · exact ⟨_, rfl⟩
          rw [if_pos trivial, hx]
          simp only [Option.bind_some]
          rw [g2]
          simp only [Option.bind_some]
          rw [if_neg Bool.false_ne_true]
          rfl
        · have r0 := hb.rd 0 (by omega)
          have r1 := hb.rd 1 (by omega)
          have r2 := hb.rd 2 (by omega)
          have g1 : bits_Get.f b 0 2 = some (rd b 0 + 256 * rd b 1, true) := by
            unfold bits_Get.f
            rw [if_pos ⟨rfl, rfl⟩, if_neg (by omega), or0_eq (c := rd b 0) r0.1 r0.2, or1_eq (a := rd b 0) (b := rd b 1) r0.1 r0.2 r1.1 r1.2]
          have g2 : bits_Get.f b 2 1 = some (rd b 2, true) := by
            unfold bits_Get.f
            rw [if_neg (by omega), if_pos ⟨rfl, rfl⟩, if_neg h3, or0_eq (c := rd b 2) r2.1 r2.2]
          have hn1 : 0 ≤ rd b 2 := r2.1
          have hn2 : rd b 2 ≤ 255 := r2.2
          by_cases hlong : (b.length : Int) - 3 < rd b 2
          · have hp : decP b out = none := by rw [decP, if_pos h0, if_neg h64, if_neg h3, if_pos hlong]
            rw [hp]
            refine ⟨2, fun k hk => ?_⟩
            obtain ⟨m, rfl⟩ : ∃ m, k = m + 2 := ⟨k - 2, by omega⟩
            show dirent_Decode.l0 (m + 2) b out = _
            simp only [dirent_Decode.l0]
            rw [if_pos (by omega), show decide ((out.length : Int) ≤ 64) = true from decide_eq_true (by omega)]
            simp only [dirent_Decode.j1]
            rw [if_pos trivial, g1]
            simp only [Option.bind_some]
            rw [g2]
            simp only [Option.bind_some]
            rw [if_pos trivial, w64 (x := (b.length : Int) - 3) (by omega) (by omega), if_pos (by omega)]
            rfl
          · have hp : decP b out = decP (b.drop (3 + (rd b 2).toNat)) (out ++ [entAt b]) := by rw [decP, if_pos h0, if_neg h64, if_neg h3, if_neg hlong]
            rw [hp]
            have hdl : (b.drop (3 + (rd b 2).toNat)).length < d := by rw [List.length_drop]; omega
            obtain ⟨K, hK⟩ := ih _ hdl _ (out ++ [entAt b]) rfl (by omega) (hb.drop _) (by simp; omega)
            refine ⟨K + 2, fun k hk => ?_⟩
            obtain ⟨m, rfl⟩ : ∃ m, k = m + 2 := ⟨k - 2, by omega⟩
            show dirent_Decode.l0 (m + 2) b out = _
            simp only [dirent_Decode.l0]
            rw [if_pos (by omega), show decide ((out.length : Int) ≤ 64) = true from decide_eq_true (by omega)]
            simp only [dirent_Decode.j1]
            rw [if_pos trivial, g1]
            simp only [Option.bind_some]
            rw [g2]
            simp only [Option.bind_some]
            rw [if_pos trivial, w64 (x := (b.length : Int) - 3) (by omega) (by omega), if_neg (by omega), w64 (x := 3 + rd b 2) (by omega) (by omega), if_pos (by omega), if_pos (by omega), if_pos (by omega), if_pos (by omega)]
            have e : (3 + rd b 2).toNat = 3 + (rd b 2).toNat := by omega
            rw [e]
            exact hK m (by omega)
    · have hp : decP b out = if rightB out = true then some out else none := by rw [decP, if_neg h0]
      obtain ⟨K, hK⟩ := hj hp
      refine ⟨K + 1, fun k hk => ?_⟩
      obtain ⟨m, rfl⟩ : ∃ m, k = m + 1 := ⟨k - 1, by omega⟩
      show dirent_Decode.l0 (m + 1) b out = _
      simp only [dirent_Decode.l0]
      rw [if_neg (by omega)]
      exact hK m (by omega)
theorem decode_ev (b : List Int) (hl : b.length < 1000000) (hb : Byt b) : Ev (fun k => dirent_Decode.f k b) (ansP (decP b [])) := by
  have := dec_l0 b.length b [] rfl hl hb (by simp)
  exact this

/-- The reference's place in the bytes, and ours. -/
def endP (o : Option (List S24)) : Option (List S24) := match o with
  | some l => if rightB l = true then some l else none
  | none => none
theorem rd_drop (b : List Int) (i j : Nat) (h : i + j < b.length) : rd (b.drop i) (j : Int) = rd b ((i + j : Nat) : Int) := by
  rw [rdn _ _ (by rw [List.length_drop]; omega), rdn _ _ h, List.getElem_drop]
theorem dec_go (b : List Int) (hb : Byt b) : ∀ (d i : Nat) (out : List S24), b.length - i = d → i ≤ b.length → ∃ o, decGo b i out = some o ∧ endP o = decP (b.drop i) out := by
  intro d
  induction d using Nat.strongRecOn with
  | _ d ih =>
    intro i out hd hi
    have hlen : (b.drop i).length = b.length - i := List.length_drop ..
    by_cases h0 : i < b.length
    · rw [decGo, decP, if_pos h0, if_pos (show 0 < (b.drop i).length by omega)]
      by_cases h3 : b.length < i + 3
      · rw [if_pos h3]
        refine ⟨none, rfl, ?_⟩
        rw [if_pos (show (b.drop i).length < 3 by omega), ite_self]
        rfl
      · rw [if_neg h3, if_neg (show ¬ (b.drop i).length < 3 by omega)]
        have r0 := hb.rd i (by omega)
        have r1 := hb.rd (i + 1) (by omega)
        have r2 := hb.rd (i + 2) (by omega)
        rw [if_pos ⟨r2.1, r2.2, r0.1, r0.2, r1.1, r1.2⟩]
        have e0 : rd (b.drop i) 0 = rd b (i : Int) := rd_drop b i 0 (by omega)
        have e1 : rd (b.drop i) 1 = rd b ((i + 1 : Nat) : Int) := rd_drop b i 1 (by omega)
        have e2 : rd (b.drop i) 2 = rd b ((i + 2 : Nat) : Int) := rd_drop b i 2 (by omega)
        rw [e2, hlen]
        by_cases hlong : (b.length : Int) - i - 3 < rd b ((i + 2 : Nat) : Int)
        · rw [if_pos hlong, if_pos (show ((b.length - i : Nat) : Int) - 3 < rd b ((i + 2 : Nat) : Int) by omega), ite_self]
          exact ⟨none, rfl, rfl⟩
        · rw [if_neg hlong, if_neg (show ¬ ((b.length - i : Nat) : Int) - 3 < rd b ((i + 2 : Nat) : Int) by omega)]
          by_cases h64 : 64 < out.length
          · rw [if_pos h64, if_pos h64]
            exact ⟨none, rfl, rfl⟩
          · rw [if_neg h64, if_neg h64]
            have hn1 : 0 ≤ rd b ((i + 2 : Nat) : Int) := r2.1
            have e3 : (⟨strOfNums ((b.take (i + 3 + (rd b ((i + 2 : Nat) : Int)).toNat)).drop (i + 3)), rd b (i : Int) + 256 * rd b ((i + 1 : Nat) : Int)⟩ : S24) = entAt (b.drop i) := by
              unfold entAt
              rw [e0, e1, e2]
              congr 2
              rw [take_take3, List.drop_drop, List.drop_take, Nat.add_sub_cancel_left]
            rw [e3, List.drop_drop]
            exact ih (b.length - (i + (3 + (rd b ((i + 2 : Nat) : Int)).toNat))) (by omega) _ _ rfl (by omega)
    · rw [decGo, decP, if_neg h0, if_neg (show ¬ 0 < (b.drop i).length by omega)]
      exact ⟨some out, rfl, rfl⟩
theorem ref_decode_ev (b : List Int) (hl : b.length < 1000000) (hb : Byt b) : Ev (fun k => moraineref11_Decode.f k b) (ansP (decP b [])) := by
  obtain ⟨o, h1, h2⟩ := dec_go b hb b.length 0 [] (by omega) (by omega)
  rw [List.drop_zero] at h2
  cases o with
  | none =>
    refine Ev.congr (f := fun _ => some ([], false)) (fun k => ?_) ?_
    · unfold moraineref11_Decode.f
      rw [if_pos (by omega), h1]
      rfl
    · rw [← h2]; exact Ev.now _
  | some out =>
    obtain ⟨K, hK⟩ := ref_right_ev out
    refine ⟨K, fun k hk => ?_⟩
    show moraineref11_Decode.f k b = _
    unfold moraineref11_Decode.f
    rw [if_pos (by omega), h1]
    simp only [Option.bind_some]
    rw [show moraineref11_Right.f k out = some (rightB out) from hK k (by omega), ← h2]
    simp only [Option.bind_some]
    unfold endP
    by_cases hr : rightB out = true
    · simp only [hr]; rfl
    · have hr2 : rightB out = false := by simpa using hr
      simp only [hr2]; rfl

/-! ### both ways round -/
theorem str_bytes (s : ByteArray) : strOfNums (bytesOf s) = s := by
  apply bytes_ext
  rw [toList_data, toList_data, strOfNums_data, bytesOf, List.map_map]
  conv => rhs; rw [← List.map_id s.data.toList]
  apply List.map_congr_left
  intro x _
  show UInt8.ofNat ((x.toNat : Int)).toNat = x
  simp
theorem bytes_str {l : List Int} (h : Byt l) : bytesOf (strOfNums l) = l := by
  unfold bytesOf
  rw [strOfNums_data, List.map_map]
  conv => rhs; rw [← List.map_id l]
  apply List.map_congr_left
  intro x hx
  obtain ⟨h1, h2⟩ := h x hx
  show ((UInt8.ofNat x.toNat).toNat : Int) = x
  rw [UInt8.toNat_ofNat']
  omega
theorem ent_enc (x : S24) (r : List Int) (h : okE x = true) : entAt (encE x ++ r) = x ∧ (rd (encE x ++ r) 2).toNat = x.f0.size ∧ (encE x ++ r).drop (3 + x.f0.size) = r := by
  have h5 := bytesOf_length x.f0
  have e2 : rd (encE x ++ r) 2 = (x.f0.size : Int) := rfl
  have e0 : rd (encE x ++ r) 0 = x.f1 := rfl
  have e1 : rd (encE x ++ r) 1 = 0 := rfl
  have e3 : encE x ++ r = (x.f1 :: 0 :: (x.f0.size : Int) :: []) ++ (bytesOf x.f0 ++ r) := by unfold encE; simp
  refine ⟨?_, by rw [e2]; omega, ?_⟩
  · unfold entAt
    rw [e0, e1, e2, take_take3]
    have : (encE x ++ r).drop 3 = bytesOf x.f0 ++ r := by rw [e3]; rfl
    rw [this, List.take_append_of_le_length (by omega), List.take_of_length_le (by omega), str_bytes]
    congr 1
    omega
  · rw [← List.drop_drop]
    have : (encE x ++ r).drop 3 = bytesOf x.f0 ++ r := by rw [e3]; rfl
    rw [this, List.drop_append_of_le_length (by omega), List.drop_of_length_le (by omega), List.nil_append]
theorem dec_enc : ∀ (l out : List S24), (∀ x ∈ l, okE x = true) → out.length + l.length ≤ 64 → decP (encB l) out = if rightB (out ++ l) = true then some (out ++ l) else none
  | [], out, _, _ => by rw [decP, if_neg (by simp [encB]), List.append_nil]
  | x :: r, out, h, hl => by
    rw [List.length_cons] at hl
    have h5 := bytesOf_length x.f0
    obtain ⟨a1, a2, a3⟩ := ent_enc x (encB r) (h x (List.mem_cons_self ..))
    have hlen : (encE x ++ encB r).length = 3 + x.f0.size + (encB r).length := by
      rw [List.length_append]; unfold encE; simp only [List.length_cons]; omega
    have e2 : rd (encE x ++ encB r) 2 = (x.f0.size : Int) := rfl
    rw [encB_cons, decP, if_pos (by omega), if_neg (by omega), if_neg (by omega), if_neg (by rw [e2]; omega), a1, a2, a3, dec_enc r (out ++ [x]) (fun y hy => h y (List.mem_cons_of_mem _ hy)) (by simp; omega)]
    simp
theorem enc_dec : ∀ (d : Nat) (b : List Int) (out o : List S24), b.length = d → Byt b → decP b out = some o → rightB o = true ∧ ∃ r, o = out ++ r ∧ ((∀ x ∈ r, okE x = true) → encB r = b) := by
  intro d
  induction d using Nat.strongRecOn with
  | _ d ih =>
    intro b out o hd hb h
    rw [decP] at h
    by_cases h0 : 0 < b.length
    · rw [if_pos h0] at h
      by_cases h64 : 64 < out.length
      · rw [if_pos h64] at h; cases h
      · rw [if_neg h64] at h
        by_cases h3 : b.length < 3
        · rw [if_pos h3] at h; cases h
        · rw [if_neg h3] at h
          by_cases hlong : (b.length : Int) - 3 < rd b 2
          · rw [if_pos hlong] at h; cases h
          · rw [if_neg hlong] at h
            have r0 : 0 ≤ rd b 0 ∧ rd b 0 ≤ 255 := hb.rd 0 (by omega)
            have r1 : 0 ≤ rd b 1 ∧ rd b 1 ≤ 255 := hb.rd 1 (by omega)
            have r2 : 0 ≤ rd b 2 ∧ rd b 2 ≤ 255 := hb.rd 2 (by omega)
            obtain ⟨hr, r, hr1, hr2⟩ := ih (b.drop (3 + (rd b 2).toNat)).length (by rw [List.length_drop]; omega) _ _ o rfl (hb.drop _) h
            refine ⟨hr, entAt b :: r, by rw [hr1]; simp, fun hall => ?_⟩
            obtain ⟨-, g2, g3⟩ := (okE_iff _).1 (hall (entAt b) (List.mem_cons_self ..))
            rw [encB_cons, hr2 (fun x hx => hall x (List.mem_cons_of_mem _ hx))]
            have g4 : (entAt b).f1 = rd b 0 + 256 * rd b 1 := rfl
            rw [g4] at g2 g3
            have z1 : rd b 1 = 0 := by omega
            have hlt : ((b.drop 3).take (rd b 2).toNat).length = (rd b 2).toNat := by rw [List.length_take, List.length_drop]; omega
            have hbt : Byt ((b.drop 3).take (rd b 2).toNat) := fun x hx => hb x (List.mem_of_mem_drop (List.mem_of_mem_take hx))
            have hf : (entAt b).f0 = strOfNums ((b.drop 3).take (rd b 2).toNat) := by unfold entAt; rw [take_take3]
            have hsz : ((entAt b).f0.size : Int) = rd b 2 := by rw [hf, strOfNums_size, hlt]; omega
            have hb3 : b = rd b 0 :: rd b 1 :: rd b 2 :: b.drop 3 := by
              match b, h3 with
              | a :: c :: e :: t, _ => rfl
              | [], h3 => exact absurd (by simp) h3
              | [_], h3 => exact absurd (by simp) h3
              | [_, _], h3 => exact absurd (by simp) h3
            unfold encE
            rw [hsz, g4, hf, bytes_str hbt, z1]
            conv => rhs; rw [hb3, z1]
            rw [← List.drop_drop]
            simp only [List.cons_append, List.take_append_drop, Int.mul_zero, Int.add_zero]
    · rw [if_neg h0] at h
      by_cases hr : rightB out = true
      · rw [if_pos hr] at h
        obtain rfl := Option.some.inj h
        refine ⟨hr, [], by simp, fun _ => ?_⟩
        have : b = [] := List.length_eq_zero_iff.1 (by omega)
        rw [this]; rfl
      · rw [if_neg hr] at h; cases h
end Go.Proofs.Ytllfjmmdackgdaa.PZ
