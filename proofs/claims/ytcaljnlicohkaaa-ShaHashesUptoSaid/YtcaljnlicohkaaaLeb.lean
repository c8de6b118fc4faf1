/- Numbers as bytes: leb and the document. -/
import Derived.Test.YtcaljnlicohkaaaMem6
import Derived.Test.YtcaljnlicohkaaaCrcD
import Derived.Test.YtcaljnlicohkaaaMem9
namespace Go.Proofs.Ytcaljnlicohkaaa
open Go.RowKit
set_option maxRecDepth 100000
set_option linter.unusedVariables false
/-- the value of the first i bytes' low seven bits -/
def lebS (l : List Int) : Nat → Nat
  | 0 => 0
  | i + 1 => lebS l i + (l.getD i 0).toNat % 128 * 2 ^ (7 * i)
theorem lebS_lt (l : List Int) : ∀ i, lebS l i < 2 ^ (7 * i)
  | 0 => by simp [lebS]
  | i + 1 => by
    have ih := lebS_lt l i
    have h : (l.getD i 0).toNat % 128 ≤ 127 := by have := Nat.mod_lt (l.getD i 0).toNat (by decide : 0 < 128); omega
    have h2 : (l.getD i 0).toNat % 128 * 2 ^ (7 * i) ≤ 127 * 2 ^ (7 * i) := Nat.mul_le_mul_right _ h
    rw [lebS, show 7 * (i + 1) = 7 * i + 7 by omega, Nat.pow_add]
    omega
/-- what Decode answers: the number, how many bytes, the error; n more steps from place i on -/
def lebD (l : List Int) : Nat → Nat → Int × Int × Int
  | 0, i => (0, 0, if l.length < 10 then 10 else 11)
  | n + 1, i =>
    if l.length ≤ i then (0, 0, if l.length < 10 then 10 else 11)
    else if 128 ≤ l.getD i 0 then lebD l n (i + 1)
    else if i = 9 ∧ 1 < l.getD i 0 then (0, 0, 11)
    else if 0 < i ∧ l.getD i 0 = 0 then (0, 0, 12)
    else (((lebS l i + (l.getD i 0).toNat * 2 ^ (7 * i) : Nat) : Int), ((i + 1 : Nat) : Int), 0)
theorem or_u64 {a y s : Nat} (ha : a < 2 ^ s) (hy : a + y * 2 ^ s < 2 ^ 64) : bits .or .u64 (a : Int) ((y * 2 ^ s : Nat) : Int) = ((a + y * 2 ^ s : Nat) : Int) := by
  have e : a ||| y * 2 ^ s = a + y * 2 ^ s := by
    have h := Nat.two_pow_add_eq_or_of_lt ha y
    rw [Nat.or_comm, Nat.mul_comm y, ← h, Nat.add_comm]
  show IntKind.u64.wrap ((((BitVec.ofInt 64 (a : Int)) ||| (BitVec.ofInt 64 ((y * 2 ^ s : Nat) : Int))).toNat : Nat) : Int) = _
  rw [BitVec.ofInt_natCast, BitVec.ofInt_natCast, BitVec.toNat_or, BitVec.toNat_ofNat, BitVec.toNat_ofNat, Nat.mod_eq_of_lt (by omega), Nat.mod_eq_of_lt (by omega), e, IntKind.wrap_u64]
  omega
/-- a number's bytes -/
def lebB (v : Nat) : List Int := if v < 128 then [(v : Int)] else ((v % 128 + 128 : Nat) : Int) :: lebB (v / 128)
termination_by v
decreasing_by omega
theorem lebB_lo {v : Nat} (h : v < 128) : lebB v = [(v : Int)] := by rw [lebB, if_pos h]
theorem lebB_hi {v : Nat} (h : ¬ v < 128) : lebB v = ((v % 128 + 128 : Nat) : Int) :: lebB (v / 128) := by rw [lebB, if_neg h]
theorem lebB_bytes : ∀ v, IsBytes (lebB v) := by
  intro v
  induction v using Nat.strongRecOn with
  | _ v ih =>
    by_cases h : v < 128
    · rw [lebB_lo h]; intro b hb
      rw [List.mem_singleton] at hb; subst hb; omega
    · rw [lebB_hi h]; intro b hb
      rcases List.mem_cons.1 hb with rfl | hb
      · omega
      · exact ih (v / 128) (by omega) b hb
theorem lebB_pos (v : Nat) : 1 ≤ (lebB v).length := by
  by_cases h : v < 128
  · rw [lebB_lo h]; simp
  · rw [lebB_hi h]; simp
theorem lebB_le (n : Nat) : ∀ v, v < 128 ^ n → 1 ≤ n → (lebB v).length ≤ n := by
  induction n with
  | zero => intro v _ h; omega
  | succ n ih =>
    intro v hv _
    by_cases h : v < 128
    · rw [lebB_lo h]; simp
    · rw [lebB_hi h, List.length_cons]
      have h1 : v / 128 < 128 ^ n := by rw [Nat.pow_succ] at hv; omega
      by_cases hn : 1 ≤ n
      · have := ih (v / 128) h1 hn; omega
      · obtain rfl : n = 0 := by omega
        simp at h1; omega
theorem lebB_10 {v : Nat} (h : v < 18446744073709551616) : (lebB v).length ≤ 10 := lebB_le 10 v (Nat.lt_of_lt_of_le h (by decide)) (by omega)
/-- numbers behind one another, written -/
theorem lebS_append (a r : List Int) : ∀ i, i ≤ a.length → lebS (a ++ r) i = lebS a i
  | 0, _ => rfl
  | i + 1, h => by
    rw [lebS, lebS, lebS_append a r i (by omega), List.getD_eq_getElem?_getD, List.getD_eq_getElem?_getD, List.getElem?_append_left (by omega)]
theorem getD_cons_at (L r : List Int) (i : Nat) (x : Int) (h : L.drop i = x :: r) : i < L.length ∧ L.getD i 0 = x ∧ L.drop (i + 1) = r := by
  have hl : i < L.length := by
    by_cases hl : i < L.length
    · exact hl
    · rw [List.drop_eq_nil_of_le (by omega)] at h; cases h
  rw [List.drop_eq_getElem_cons hl] at h
  injection h with h1 h2
  refine ⟨hl, ?_, h2⟩
  rw [List.getD_eq_getElem?_getD, List.getElem?_eq_getElem hl, Option.getD_some, h1]
theorem pow7 (i : Nat) (h : 1 * 2 ^ (7 * i) < 18446744073709551616) : i ≤ 9 := by
  by_cases hi : i ≤ 9
  · exact hi
  · have h1 : 2 ^ 70 ≤ 2 ^ (7 * i) := Nat.pow_le_pow_right (by decide) (by omega)
    omega
theorem lebD_put (L r : List Int) : ∀ (u n i : Nat), L.drop i = lebB u ++ r → i + n = 10 → lebS L i + u * 2 ^ (7 * i) < 18446744073709551616 → (0 < u ∨ i = 0) →
    lebD L n i = (((lebS L i + u * 2 ^ (7 * i) : Nat) : Int), ((i + (lebB u).length : Nat) : Int), 0) := by
  intro u
  induction u using Nat.strongRecOn with
  | _ u ih =>
    intro n i hd hn hb hu
    have h9 : i ≤ 9 := by
      rcases hu with hu | hu
      · refine pow7 i ?_
        have := Nat.mul_le_mul_right (2 ^ (7 * i)) hu
        omega
      · omega
    obtain ⟨n, rfl⟩ : ∃ m, n = m + 1 := ⟨n - 1, by omega⟩
    rw [lebD]
    by_cases h : u < 128
    · rw [lebB_lo h] at hd ⊢
      obtain ⟨hl, hx, _⟩ := getD_cons_at L r i u (by simpa using hd)
      rw [if_neg (by omega), hx, if_neg (by omega), if_neg ?_, if_neg (by omega)]
      · simp
      · rintro ⟨h1, h2⟩
        subst h1
        have : 2 * 2 ^ (7 * 9) ≤ u * 2 ^ (7 * 9) := Nat.mul_le_mul_right _ (by omega)
        omega
    · rw [lebB_hi h] at hd ⊢
      obtain ⟨hl, hx, hr⟩ := getD_cons_at L (lebB (u / 128) ++ r) i _ (by simpa using hd)
      have hs : lebS L (i + 1) = lebS L i + u % 128 * 2 ^ (7 * i) := by
        rw [lebS, hx]
        congr 2
        omega
      have hp : 2 ^ (7 * (i + 1)) = 128 * 2 ^ (7 * i) := by rw [show 7 * (i + 1) = 7 * i + 7 by omega, Nat.pow_add]; omega
      have he : lebS L (i + 1) + u / 128 * 2 ^ (7 * (i + 1)) = lebS L i + u * 2 ^ (7 * i) := by
        rw [hs, hp, Nat.add_assoc, ← Nat.mul_assoc, ← Nat.add_mul]
        congr 2
        omega
      rw [if_neg (by omega), hx, if_pos (by omega), ih (u / 128) (by omega) n (i + 1) hr (by omega) (by omega) (.inl (by omega)), he, List.length_cons]
      congr 2
      omega
/-- what was written is read -/
theorem lebD_lebB (v : Nat) (hv : v < 18446744073709551616) (r : List Int) : lebD (lebB v ++ r) 10 0 = ((v : Int), ((lebB v).length : Int), 0) := by
  rw [lebD_put (lebB v ++ r) r v 10 0 rfl (by omega) (by simp [lebS]; omega) (.inr rfl)]
  simp [lebS]
/-- what is read would be written so -/
theorem lebD_got (L : List Int) (hL : IsBytes L) : ∀ (n i : Nat), i + n = 10 → lebS L i < 2 ^ (7 * i) → lebD L n i = (0, 0, 10) ∨ lebD L n i = (0, 0, 11) ∨ lebD L n i = (0, 0, 12) ∨
    ∃ u k : Nat, lebD L n i = (((lebS L i + u * 2 ^ (7 * i) : Nat) : Int), ((i + k : Nat) : Int), 0) ∧ i + k ≤ L.length ∧ 1 ≤ k ∧ i + k ≤ 10 ∧ (L.drop i).take k = lebB u ∧ lebS L i + u * 2 ^ (7 * i) < 18446744073709551616 ∧ (0 < u ∨ i = 0) := by
  intro n
  induction n with
  | zero =>
    intro i _ _
    rw [lebD]
    split
    · exact .inl rfl
    · exact .inr (.inl rfl)
  | succ n ih =>
    intro i hn hs
    rw [lebD]
    by_cases hl : L.length ≤ i
    · rw [if_pos hl]
      split
      · exact .inl rfl
      · exact .inr (.inl rfl)
    rw [if_neg hl]
    obtain ⟨b0, b1⟩ := byte_at hL (show i < L.length by omega)
    have hdr : L.drop i = L.getD i 0 :: L.drop (i + 1) := by
      rw [List.drop_eq_getElem_cons (by omega), List.getD_eq_getElem?_getD, List.getElem?_eq_getElem (by omega), Option.getD_some]
    have hss : lebS L (i + 1) = lebS L i + (L.getD i 0).toNat % 128 * 2 ^ (7 * i) := rfl
    have hp : 2 ^ (7 * (i + 1)) = 128 * 2 ^ (7 * i) := by rw [show 7 * (i + 1) = 7 * i + 7 by omega, Nat.pow_add]; omega
    generalize L.getD i 0 = x at *
    by_cases hx : 128 ≤ x
    · rw [if_pos hx]
      rcases ih (i + 1) (by omega) (lebS_lt L (i + 1)) with h | h | h | ⟨u, k, h, h1, h2, h2', h3, h4, h5⟩
      · exact .inl h
      · exact .inr (.inl h)
      · exact .inr (.inr (.inl h))
      · have hu : 0 < u := by omega
        have he : lebS L i + (128 * u + x.toNat % 128) * 2 ^ (7 * i) = lebS L (i + 1) + u * 2 ^ (7 * (i + 1)) := by
          rw [hss, hp, Nat.add_mul, ← Nat.mul_assoc, Nat.mul_comm 128 u]
          omega
        refine .inr (.inr (.inr ⟨128 * u + x.toNat % 128, k + 1, ?_, by omega, by omega, by omega, ?_, by omega, .inl (by omega)⟩))
        · rw [h, he]
          congr 2
          omega
        · rw [hdr, List.take_succ_cons, h3, lebB_hi (v := 128 * u + x.toNat % 128) (by omega)]
          congr 1
          · omega
          · congr 1
            omega
    · rw [if_neg hx]
      by_cases h9 : i = 9 ∧ 1 < x
      · rw [if_pos h9]; exact .inr (.inl rfl)
      rw [if_neg h9]
      by_cases h0 : 0 < i ∧ x = 0
      · rw [if_pos h0]; exact .inr (.inr (.inl rfl))
      rw [if_neg h0]
      refine .inr (.inr (.inr ⟨x.toNat, 1, rfl, by omega, by omega, by omega, ?_, ?_, by omega⟩))
      · rw [hdr, List.take_succ_cons, List.take_zero, lebB_lo (by omega)]
        congr 1
        omega
      · by_cases h9' : i = 9
        · subst h9'
          have : x.toNat * 2 ^ (7 * 9) ≤ 1 * 2 ^ (7 * 9) := Nat.mul_le_mul_right _ (by omega)
          omega
        · have : x.toNat * 2 ^ (7 * i) ≤ 127 * 2 ^ (7 * i) := Nat.mul_le_mul_right _ (by omega)
          have h2 : 2 ^ (7 * i) ≤ 2 ^ 56 := Nat.pow_le_pow_right (by decide) (by omega)
          omega
/-- the whole: an error, or a number that stands in its shortest form -/
theorem lebD_cases (L : List Int) (hL : IsBytes L) : lebD L 10 0 = (0, 0, 10) ∨ lebD L 10 0 = (0, 0, 11) ∨ lebD L 10 0 = (0, 0, 12) ∨
    ∃ u k : Nat, lebD L 10 0 = ((u : Int), (k : Int), 0) ∧ k ≤ L.length ∧ 1 ≤ k ∧ k ≤ 10 ∧ L.take k = lebB u ∧ u < 18446744073709551616 := by
  rcases lebD_got L hL 10 0 (by omega) (by simp [lebS]) with h | h | h | ⟨u, k, h, h1, h2, h2', h3, h4, h5⟩
  · exact .inl h
  · exact .inr (.inl h)
  · exact .inr (.inr (.inl h))
  · simp only [lebS, Nat.mul_zero, Nat.pow_zero, Nat.mul_one, Nat.zero_add, List.drop_zero] at h h1 h2' h3 h4
    exact .inr (.inr (.inr ⟨u, k, h, h1, h2, h2', h3, h4⟩))
def LebRet (R : Int × Int × Int) (w : World) (e : Ending) (w' : World) : Prop := e = .returned (.tuple #[.int .u64 R.1, .int .i64 R.2.1, .int .i64 R.2.2]) ∧ w = w'
theorem and127_all : ∀ n : Fin 256, bits .and .u8 ((n.val : Nat) : Int) 127 = ((n.val % 128 : Nat) : Int) := by decide
theorem and127 {x : Int} (x0 : 0 ≤ x) (x1 : x < 256) : bits .and .u8 x 127 = ((x.toNat % 128 : Nat) : Int) := by
  have h := and127_all ⟨x.toNat, by omega⟩
  rw [show ((⟨x.toNat, by omega⟩ : Fin 256).val : Nat) = x.toNat from rfl, Int.toNat_of_nonneg x0] at h
  exact h
theorem leb_or {S y k : Nat} (hS : S < 2 ^ (7 * k)) (hy : y < 256) (hb : S + y * 2 ^ (7 * k) < 18446744073709551616) :
    bits .or .u64 (S : Int) (IntKind.u64.wrap (IntKind.u64.wrap (y : Int) * 2 ^ (7 * k))) = ((S + y * 2 ^ (7 * k) : Nat) : Int) := by
  have e1 : IntKind.u64.wrap (y : Int) = (y : Int) := by rw [IntKind.wrap_u64]; omega
  have e2 : ((y : Int) * 2 ^ (7 * k)) = ((y * 2 ^ (7 * k) : Nat) : Int) := by rw [Int.natCast_mul, Int.natCast_pow]; rfl
  rw [e1, e2]
  have e3 : IntKind.u64.wrap ((y * 2 ^ (7 * k) : Nat) : Int) = ((y * 2 ^ (7 * k) : Nat) : Int) := by
    rw [IntKind.wrap_u64]
    generalize y * 2 ^ (7 * k) = z at *
    omega
  rw [e3]
  exact or_u64 hS hb
theorem leb_hi {S k : Nat} {x : Int} (hS : S < 2 ^ (7 * k)) (x0 : 0 ≤ x) (x1 : x < 256) (hk : k + 1 ≤ 9) :
    bits .or .u64 (S : Int) (IntKind.u64.wrap (IntKind.u64.wrap (bits .and .u8 x 127) * 2 ^ (7 * k))) = ((S + x.toNat % 128 * 2 ^ (7 * k) : Nat) : Int) := by
  rw [and127 x0 x1]
  have h1 : x.toNat % 128 * 2 ^ (7 * k) ≤ 127 * 2 ^ (7 * k) := Nat.mul_le_mul_right _ (by omega)
  have h2 : 2 ^ (7 * k) ≤ 2 ^ 56 := Nat.pow_le_pow_right (by decide) (by omega)
  exact leb_or hS (by omega) (by omega)
theorem leb_lo {S k : Nat} {x : Int} (hS : S < 2 ^ (7 * k)) (x0 : 0 ≤ x) (x1 : ¬ 128 ≤ x) (hk : k ≤ 9) (h9 : ¬ (k = 9 ∧ 1 < x)) :
    bits .or .u64 (S : Int) (IntKind.u64.wrap (x * 2 ^ (7 * k))) = ((S + x.toNat * 2 ^ (7 * k) : Nat) : Int) := by
  obtain ⟨y, rfl⟩ := Int.eq_ofNat_of_zero_le x0
  rw [Int.toNat_natCast]
  have e0 : IntKind.u64.wrap (y : Int) = (y : Int) := by rw [IntKind.wrap_u64]; omega
  rw [← e0]
  refine leb_or hS (by omega) ?_
  by_cases h : k = 9
  · subst h
    have : y * 2 ^ (7 * 9) ≤ 1 * 2 ^ (7 * 9) := Nat.mul_le_mul_right _ (by omega)
    omega
  · have h1 : y * 2 ^ (7 * k) ≤ 127 * 2 ^ (7 * k) := Nat.mul_le_mul_right _ (by omega)
    have h2 : 2 ^ (7 * k) ≤ 2 ^ 56 := Nat.pow_le_pow_right (by decide) (by omega)
    omega
set_option maxHeartbeats 1000000 in
theorem leb_Decode_any (v : Value) (l : List Int) (w : World) (HR : Rd w v l) :
    Calls Try.prog 43 #[v] w (LebRet (lebD l 10 0) w) := by
  have hB := HR.1
  obtain ⟨R, hR⟩ : ∃ R, lebD l 10 0 = R := ⟨_, rfl⟩
  rw [hR]
  have HX := hd_ hR
  clear hR
  obtain ⟨A, cap, rfl, hn, hm, _, hc'⟩ := HR.form
  unfold maxLen at hm
  have hc := hd_ hc'
  clear HR hc'
  go_enter Try.func43, Try.ntmps43
  go_wp2
  go_loop [5, 10] (fun vv vi => ∃ (k : Nat) (q : Int), k ≤ l.length ∧ k ≤ 10 ∧ vi = .int .i64 k ∧ vv = .int .u64 q ∧ Hid (k ≤ 9 → q = (lebS l k : Nat)) ∧ Hid (lebD l (10 - k) k = R)) (fun _ i => l.length - (intOf i).toNat)
  case atStart => exact ⟨0, 0, Nat.zero_le _, Nat.zero_le _, rfl, rfl, hd_ (fun _ => rfl), HX⟩
  case round =>
    clear HX
    obtain ⟨k, q, hk, hk10, rfl, rfl, HQ, HI⟩ := hrel
    by_cases hlt : k < l.length
    · by_cases h10 : k = 10
      · subst h10
        have hE := HI.out
        rw [Nat.sub_self, lebD, if_neg (by omega)] at hE
        have HE := hd_ hE
        obtain ⟨b, off, rfl, hcell⟩ := hc.out 10 hlt
        clear HI HQ hE hc
        go_wp2
        go_ret3
        rw [← HE.out]
        exact ⟨rfl, rfl⟩
      · obtain ⟨b, off, rfl, hcell⟩ := hc.out k hlt
        obtain ⟨x0, x1⟩ := byte_at hB hlt
        have h9 : k ≤ 9 := by omega
        obtain rfl := HQ.out h9
        have hE := HI.out
        have e1 : 10 - k = (10 - (k + 1)) + 1 := by omega
        rw [e1, lebD, if_neg (by omega)] at hE
        have hS : lebS l (k + 1) = lebS l k + (l.getD k 0).toNat % 128 * 2 ^ (7 * k) := rfl
        have HS := hd_ hS
        have hsl := hd_ (lebS_lt l k)
        clear e1 HI hc HQ hS
        generalize l.getD k 0 = x at *
        have hkI : ¬ (k : Int) = 10 := by omega
        have hkB : ((k : Int) == 10) = false := by rw [beq_eq_false_iff_ne]; exact hkI
        by_cases hx : 128 ≤ x
        · rw [if_pos hx] at hE
          have HE := hd_ hE
          clear hE
          generalize lebS l k = S at *
          go_wp2
          go_round
          case rel =>
            refine ⟨k + 1, _, by omega, by omega, by go_num, rfl, hd_ (fun h => ?_), HE⟩
            rw [HS.out]
            exact leb_hi hsl.out x0 x1 h
          case measure => (simp [intOf]; try omega)
        · rw [if_neg hx] at hE
          by_cases hx9 : k = 9 ∧ 1 < x
          · rw [if_pos hx9] at hE
            have HE := hd_ hE
            obtain ⟨rfl, hx1⟩ := hx9
            clear hE
            generalize lebS l 9 = S at *
            go_wp2
            go_ret3
            rw [← HE.out]
            exact ⟨rfl, rfl⟩
          · rw [if_neg hx9] at hE
            by_cases hx0 : 0 < k ∧ x = 0
            · rw [if_pos hx0] at hE
              have HE := hd_ hE
              obtain ⟨h0, rfl⟩ := hx0
              have h0I : 0 < (k : Int) := by omega
              clear hE hx9
              generalize lebS l k = S at *
              by_cases h9' : k = 9
              · subst h9'
                go_wp2
                go_ret3
                rw [← HE.out]
                exact ⟨rfl, rfl⟩
              · have h9I : ((k : Int) == 9) = false := by rw [beq_eq_false_iff_ne]; omega
                have h9J : ¬ (k : Int) = 9 := by omega
                go_wp2
                go_ret3
                rw [← HE.out]
                exact ⟨rfl, rfl⟩
            · rw [if_neg hx0] at hE
              have HE := hd_ hE
              have HL := hd_ (leb_lo hsl.out x0 hx h9 hx9)
              clear hE
              generalize lebS l k = S at *
              by_cases h9' : k = 9
              · subst h9'
                obtain rfl : x = 1 := by omega
                clear hx9 hx0
                go_wp2
                go_ret3
                rw [← HE.out]
                refine ⟨?_, rfl⟩
                rw [← HL.out]
                rfl
              · have h9I : ((k : Int) == 9) = false := by rw [beq_eq_false_iff_ne]; omega
                have h9J : ¬ (k : Int) = 9 := by omega
                by_cases h0 : k = 0
                · have h0I : ¬ 0 < (k : Int) := by omega
                  clear hx9 hx0 h0
                  go_wp2
                  go_ret3
                  rw [← HE.out]
                  refine ⟨?_, rfl⟩
                  rw [← HL.out]
                  rfl
                · have h0I : 0 < (k : Int) := by omega
                  have hx00 : ¬ x = 0 := by omega
                  have hx01 : (x == 0) = false := by rw [beq_eq_false_iff_ne]; exact hx00
                  clear hx9 hx0
                  go_wp2
                  go_ret3
                  rw [← HE.out]
                  refine ⟨?_, rfl⟩
                  rw [← HL.out]
                  rfl
    · obtain rfl : k = l.length := by omega
      have hE := HI.out
      have e1 : lebD l (10 - l.length) l.length = (0, 0, if l.length < 10 then 10 else 11) := by
        by_cases h : l.length = 10
        · rw [h, Nat.sub_self, lebD, h]
        · rw [show 10 - l.length = (9 - l.length) + 1 by omega, lebD, if_pos (Nat.le_refl _)]
      rw [e1] at hE
      clear e1 HI hc HQ
      by_cases h10 : l.length < 10
      · rw [if_pos h10] at hE
        have HE := hd_ hE
        have h10I : (l.length : Int) < 10 := by omega
        clear hE
        go_wp2
        go_ret3
        rw [← HE.out]
        exact ⟨rfl, rfl⟩
      · rw [if_neg h10] at hE
        have HE := hd_ hE
        have h10I : ¬ (l.length : Int) < 10 := by omega
        clear hE
        go_wp2
        go_ret3
        rw [← HE.out]
        exact ⟨rfl, rfl⟩
theorem infoB : (Try.prog.info? 5).map (fun i => (i.zero, i.size, i.bytes)) = some (some (.int .u8 0), 1, 1) := by kernel_rfl
theorem or128_all : ∀ n : Fin 256, bits .or .u8 ((n.val : Nat) : Int) 128 = ((n.val % 128 + 128 : Nat) : Int) := by decide
theorem or128 (u : Nat) : bits .or .u8 ((u : Int) % 256) 128 = ((u % 128 + 128 : Nat) : Int) := by
  have h := or128_all ⟨u % 256, by omega⟩
  have e : (u : Int) % 256 = (((⟨u % 256, by omega⟩ : Fin 256).val : Nat) : Int) := by show (u : Int) % 256 = ((u % 256 : Nat) : Int); omega
  rw [e, h]
  show ((u % 256 % 128 + 128 : Nat) : Int) = _
  omega
theorem cell_one8 (x : Int) (j : Nat) (hj : j < 1) : (#[Value.int .u8 x])[j]? = some (.int .u8 (([x] : List Int).getD j 0)) := by
  obtain rfl : j = 0 := by omega
  rfl
def PutRet (w0 : World) (base : Nat) (L : List Int) (e : Ending) (w' : World) : Prop := ∃ v1, e = .returned v1 ∧ Own w' base 5 v1 L ∧ Below base w0 w'
theorem one_bytes {b : Int} (h0 : 0 ≤ b) (h1 : b < 256) : IsBytes [b] := fun x hx => by rw [List.mem_singleton] at hx; subst hx; exact ⟨h0, h1⟩
set_option maxHeartbeats 1000000 in
theorem leb_put_any (base : Nat) (w0 : World) (v : Value) (L : List Int) (u : Nat) (w : World) (HO : Own w base 5 v L) (HB : Below base w0 w) (hbase : base ≤ w.heap.size) (hu : u < 18446744073709551616) (hl : L.length ≤ 140737488350000) :
    Calls Try.prog 48 #[v, .int .u64 (u : Int)] w (PutRet w0 base (L ++ lebB u)) := by
  have h10 := hd_ (lebB_10 hu)
  obtain ⟨R, hR⟩ : ∃ R, L ++ lebB u = R := ⟨_, rfl⟩
  rw [hR]
  have HR := hd_ hR
  have HL : Hid (R.length ≤ 140737488350010) := hd_ (by rw [← hR, List.length_append]; have := h10.out; omega)
  clear hR h10 hl
  go_enter Try.func48, Try.ntmps48
  go_wp2
  go_loopw [0, 1] (fun vb vu wr => ∃ (P : List Int) (q : Nat), vu = .int .u64 (q : Int) ∧ q < 18446744073709551616 ∧ Own wr base 5 vb P ∧ Below base w0 wr ∧ base ≤ wr.heap.size ∧ Hid (P ++ lebB q = R)) (fun _ vu _ => (intOf vu).toNat)
  case atStart => exact ⟨L, u, rfl, hu, HO, HB, hbase, HR⟩
  case round =>
    clear HO HB hbase HR
    obtain ⟨P, q, rfl, hq, HO, HB, hbase, HI⟩ := hrel
    have hlB : Hid (P.length + 1 ≤ 140737488355328) := hd_ (by
      have h := HI.out
      have hL := HL.out
      rw [← h, List.length_append] at hL
      have := lebB_pos q
      omega)
    by_cases hlt : q < 128
    · have hE := HI.out
      rw [lebB_lo hlt] at hE
      have HE := hd_ hE
      have hw : IntKind.u8.wrap (q : Int) = (q : Int) := by rw [IntKind.wrap_u8]; omega
      clear hE HI
      go_wp2_with (at_builtin; (refine app_box (w0 := w0) base rfl _ _ 34 5 rfl Try.underlying34 infoB u0 P [(q : Int)] rfl _ 1 1 rfl rfl (Nat.le_refl _) (by omega) (one_bytes (by omega) (by omega)) (fun j hj => (World.cell?_alloc_at _ _ _ j (by simp)).trans (cell_one8 _ j hj)) (HO.keep (al1 (Below.refl _ _) _)) (HB.alloc hbase _) (Nat.le_trans hbase (size_al _ _)) hlB.out ?_); intro v5 w5 HO5 HB5 hg5 hat5)
      rw [HE.out] at HO5
      go_wp2
      go_ret
      exact ⟨_, rfl, HO5, HB5⟩
    · have hE := HI.out
      have hlt2 : ¬ (q : Int) < 128 := by omega
      have hgt : (127 : Int) < (q : Int) := by omega
      rw [lebB_hi hlt] at hE
      have HE := hd_ hE
      have ho := or128 q
      have hsh : (q : Int) / 128 = ((q / 128 : Nat) : Int) := by omega
      have hy : q % 128 + 128 < 256 := by omega
      have hq2 : q / 128 < 18446744073709551616 ∧ q / 128 < q := by omega
      generalize q / 128 = q2 at *
      generalize q % 128 + 128 = x at *
      clear hE HI
      go_wp2_with (at_builtin; (refine app_box (w0 := w0) base rfl _ _ 34 5 rfl Try.underlying34 infoB u0 P [(x : Int)] rfl _ 1 1 rfl rfl (Nat.le_refl _) (by omega) (one_bytes (by omega) (by omega)) (fun j hj => (World.cell?_alloc_at _ _ _ j (by simp)).trans (cell_one8 _ j hj)) (HO.keep (al1 (Below.refl _ _) _)) (HB.alloc hbase _) (Nat.le_trans hbase (size_al _ _)) hlB.out ?_); intro v5 w5 HO5 HB5 hg5 hat5)
      have hs5 := HB.size
      go_wp2
      go_roundw
      case rel => exact ⟨P ++ [(x : Int)], q2, rfl, hq2.1, HO5, HB5, Nat.le_trans hbase (Nat.le_trans (size_al _ _) hg5.size), hd_ (by rw [List.append_assoc]; exact HE.out)⟩
      case measure => (simp [intOf]; omega)
/-- one number's bytes, in a new row -/
theorem leb_Encode_any (v : Value) (u : Nat) (w : World) (HR : RdC 1 w v 1 [.int .u64 (u : Int)]) (hu : u < 18446744073709551616) :
    Calls Try.prog 38 #[v] w (RetOwn 5 w (lebB u)) := by
  obtain ⟨hl, A, cap, rfl, h1, h2, h3, h4⟩ := HR
  obtain ⟨b, off, rfl, hc⟩ := h4 0 (by simp)
  have hc : w.cell? ⟨b, off, none⟩ = some (.int .u64 (u : Int)) := hc
  unfold maxLen at h2
  clear h4 hl h3
  go_enter Try.func38, Try.ntmps38
  go_wp2
  go_loopw [3, 8] (fun vb vi wr => (vi = .int .i64 0 ∧ vb = .slice none 0 0 ∧ w = wr) ∨ (vi = .int .i64 1 ∧ Own wr w.heap.size 5 vb (lebB u) ∧ Below w.heap.size w wr)) (fun _ vi _ => 1 - (intOf vi).toNat)
  case atStart => exact .inl ⟨rfl, rfl, rfl⟩
  case round =>
    rcases hrel with ⟨rfl, rfl, rfl⟩ | ⟨rfl, HO, HB⟩
    · go_wp2_with (go_at_call 48; go_loud (refine (leb_put_any w.heap.size w _ [] u _ (own_nil8 _ _ _) (Below.refl _ _) (Nat.le_refl _) hu (by simp)).mono ?_); rintro e w5 ⟨v5, rfl, HO5, HB5⟩)
      rw [List.nil_append] at HO5
      go_roundw
      case rel => exact .inr ⟨rfl, HO5, HB5⟩
      case measure => (simp [intOf])
    · go_wp2
      go_ret
      exact ⟨_, rfl, HO, HB⟩
theorem box_own8 (W : World) (base : Nat) (hb : base ≤ W.heap.size) (x : Int) (h0 : 0 ≤ x) (h1 : x < 256) : Own (W.alloc (.cells #[.int .u8 x] 5)) base 5 (.slice (some ⟨W.heap.size, 0, none⟩) 1 1) [x] :=
  ⟨one_bytes h0 h1, World.ownsRow_lit (e := 5) (size := 1) W #[.int .u8 x] 1 hb (by decide) rfl⟩
theorem ref_Bytes_any : ∀ (u : Nat), u < 18446744073709551616 → ∀ (w : World), Calls Try.prog 42 #[.int .u64 (u : Int)] w (RetOwn 5 w (lebB u)) := by
  intro u
  induction u using Nat.strongRecOn with
  | _ u ih =>
    intro hu w
    by_cases h : u < 128
    · have hI : (u : Int) < 128 := by omega
      have HO := hd_ (box_own8 w w.heap.size (Nat.le_refl _) (u : Int) (by omega) (by omega))
      rw [lebB_lo h]
      clear ih
      go_enter Try.func42, Try.ntmps42
      go_wp2
      go_ret
      exact ⟨_, rfl, HO.out, al1 (Below.refl _ _) _⟩
    · have hI : ¬ (u : Int) < 128 := by omega
      have h10 := lebB_10 hu
      rw [lebB_hi h] at h10 ⊢
      have hw : ((u : Int) % 128 + 128) = ((u % 128 + 128 : Nat) : Int) := by omega
      have hq : (u : Int) / 128 = ((u / 128 : Nat) : Int) := by omega
      have hx : u % 128 + 128 < 256 := by omega
      have hq2 : u / 128 < 18446744073709551616 := by omega
      have IH := hd_ (ih (u / 128) (by omega) hq2)
      clear ih
      have HO := box_own8 w w.heap.size (Nat.le_refl _) ((u % 128 + 128 : Nat) : Int) (by omega) (by omega)
      generalize u % 128 + 128 = x at *
      generalize u / 128 = q at *
      rw [List.length_cons] at h10
      go_enter Try.func42, Try.ntmps42
      go_wp2_with (first
        | (go_at_call 42; go_loud (refine (IH.out _).mono ?_); rintro e w1 ⟨v1, rfl, HO1, HB1⟩)
        | (at_builtin; go_loud (refine app_bytes (w0 := w) w.heap.size rfl _ _ 34 5 rfl Try.underlying34 infoB _ _ [(x : Int)] (lebB q) rfl rfl (HO.keep HB1) HO1.rd (bel_trans (al1 (Below.refl _ _) _) HB1) (Nat.le_trans (size_al _ _) HB1.size) (by rw [List.length_singleton]; omega) ?_); intro v2 w2 HO2 HB2 hg2 hat2))
      go_wp2
      go_ret
      exact ⟨_, rfl, HO2, HB2⟩
theorem lebD_run (l : List Int) (k : Nat) (hk : k ≤ l.length) (h : ∀ j, j < k → 128 ≤ l.getD j 0) : ∀ i, i ≤ k → i ≤ 10 → lebD l 10 0 = lebD l (10 - i) i
  | 0, _, _ => rfl
  | i + 1, h1, h2 => by
    rw [lebD_run l k hk h i (by omega) (by omega), show 10 - i = (10 - (i + 1)) + 1 by omega, lebD, if_neg (by omega), if_pos (h i (by omega))]
theorem lebD_short {l : List Int} {k : Nat} (hk : k = l.length) (h10 : l.length < 10) (h : ∀ j, j < k → 128 ≤ l.getD j 0) : lebD l 10 0 = (0, 0, 10) := by
  subst hk
  rw [lebD_run l _ (Nat.le_refl _) h l.length (Nat.le_refl _) (by omega), show 10 - l.length = (9 - l.length) + 1 by omega, lebD, if_pos (Nat.le_refl _), if_pos h10]
theorem lebD_long {l : List Int} {k : Nat} (hk : k ≤ l.length) (h10 : 10 ≤ k) (h : ∀ j, j < k → 128 ≤ l.getD j 0) : lebD l 10 0 = (0, 0, 11) := by
  rw [lebD_run l k hk h 10 h10 (Nat.le_refl _), Nat.sub_self, lebD, if_neg (by omega)]
theorem lebD_at {l : List Int} {k : Nat} (hk : k < l.length) (h10 : k < 10) (h : ∀ j, j < k → 128 ≤ l.getD j 0) (hx : ¬ 128 ≤ l.getD k 0) : lebD l 10 0 =
    if k = 9 ∧ 1 < l.getD k 0 then (0, 0, 11) else if 0 < k ∧ l.getD k 0 = 0 then (0, 0, 12) else (((lebS l k + (l.getD k 0).toNat * 2 ^ (7 * k) : Nat) : Int), ((k + 1 : Nat) : Int), 0) := by
  rw [lebD_run l k (by omega) h k (Nat.le_refl _) (by omega), show 10 - k = (9 - k) + 1 by omega, lebD, if_neg (by omega), if_neg hx]
theorem read_step {l : List Int} {V i T : Nat} (h : V * 2 ^ (7 * (i + 1)) + lebS l (i + 1) = T) : (V * 128 + (l.getD i 0).toNat % 128) * 2 ^ (7 * i) + lebS l i = T := by
  rw [← h, show 7 * (i + 1) = 7 * i + 7 by omega, Nat.pow_add, show (2 : Nat) ^ 7 = 128 from rfl, lebS, Nat.add_mul, Nat.mul_assoc V 128, Nat.mul_comm 128 (2 ^ (7 * i))]
  omega
theorem read_le {V m S T : Nat} (h : V * 2 ^ (7 * m) + S = T) : V ≤ T := by
  have : V * 1 ≤ V * 2 ^ (7 * m) := Nat.mul_le_mul_left _ (Nat.one_le_two_pow)
  omega
set_option maxHeartbeats 1000000 in
theorem ref_Read_any (v : Value) (l : List Int) (w : World) (HR : Rd w v l) :
    Calls Try.prog 45 #[v] w (LebRet (lebD l 10 0) w) := by
  have hB := HR.1
  obtain ⟨R, hR⟩ : ∃ R, lebD l 10 0 = R := ⟨_, rfl⟩
  rw [hR]
  have HX := hd_ hR
  clear hR
  obtain ⟨A, cap, rfl, hn, hm, _, hc'⟩ := HR.form
  unfold maxLen at hm
  have hc := hd_ hc'
  clear HR hc'
  go_enter Try.func45, Try.ntmps45
  go_wp2
  go_loop [5] (fun vi => ∃ k : Nat, k ≤ l.length ∧ vi = .int .i64 k ∧ Hid (∀ j, j < k → 128 ≤ l.getD j 0)) (fun i => l.length - (intOf i).toNat)
  case atStart => exact ⟨0, Nat.zero_le _, rfl, hd_ fun j hj => absurd hj (Nat.not_lt_zero j)⟩
  case round =>
    obtain ⟨k, hk, rfl, HA⟩ := hrel
    by_cases hlt : k < l.length
    · obtain ⟨b, off, rfl, hcell⟩ := hc.out k hlt
      obtain ⟨x0, x1⟩ := byte_at hB hlt
      have hkI : (k : Int) < (l.length : Int) := by omega
      have hke : ((k : Int) == (l.length : Int)) = false := by rw [beq_eq_false_iff_ne]; omega
      have hkd : ¬ (k : Int) = (l.length : Int) := by omega
      by_cases hx : 128 ≤ l.getD k 0
      · have HA2 : Hid (∀ j, j < k + 1 → 128 ≤ l.getD j 0) := hd_ fun j hj => by
          by_cases h : j < k
          · exact HA.out j h
          · obtain rfl : j = k := by omega
            exact hx
        generalize l.getD k 0 = x at *
        clear HA hc
        go_wp2
        go_round
        case rel => exact ⟨k + 1, by omega, by go_num, HA2⟩
        case measure => (simp [intOf]; try omega)
      · by_cases h10 : 10 ≤ k
        · have HE := hd_ (HX.out.symm.trans (lebD_long hk h10 HA.out))
          have h10I : (10 : Int) ≤ (k : Int) := by omega
          generalize l.getD k 0 = x at *
          clear HA hc HX
          go_wp2
          go_ret3
          rw [HE.out]
          exact ⟨rfl, rfl⟩
        · have h10I : ¬ (10 : Int) ≤ (k : Int) := by omega
          have hE := HX.out.symm.trans (lebD_at hlt (by omega) HA.out hx)
          by_cases h9 : k = 9 ∧ 1 < l.getD k 0
          · rw [if_pos h9] at hE
            have HE := hd_ hE
            obtain ⟨rfl, h1⟩ := h9
            generalize l.getD 9 0 = x at *
            clear HA hc HX hE
            go_wp2
            go_ret3
            rw [HE.out]
            exact ⟨rfl, rfl⟩
          · rw [if_neg h9] at hE
            by_cases h0 : 0 < k ∧ l.getD k 0 = 0
            · rw [if_pos h0] at hE
              have HE := hd_ hE
              obtain ⟨h01, h02⟩ := h0
              rw [h02] at hcell
              have h0I : 0 < (k : Int) := by omega
              clear HA hc HX hE h9 hx x0 x1
              by_cases h9' : k = 9
              · subst h9'
                go_wp2
                go_ret3
                rw [HE.out]
                exact ⟨rfl, rfl⟩
              · have h9I : ((k : Int) == 9) = false := by rw [beq_eq_false_iff_ne]; omega
                have h9J : ¬ (k : Int) = 9 := by omega
                go_wp2
                go_ret3
                rw [HE.out]
                exact ⟨rfl, rfl⟩
            · rw [if_neg h0] at hE
              have HE := hd_ hE
              have HT0 : Hid (0 * 2 ^ (7 * (k + 1)) + lebS l (k + 1) = lebS l k + (l.getD k 0).toNat * 2 ^ (7 * k)) := hd_ (by
                rw [Nat.zero_mul, Nat.zero_add, lebS]
                congr 2
                omega)
              have HTb : Hid (lebS l k + (l.getD k 0).toNat * 2 ^ (7 * k) < 18446744073709551616) := hd_ (by
                have hS := lebS_lt l k
                by_cases h : k = 9
                · subst h
                  have : (l.getD 9 0).toNat * 2 ^ (7 * 9) ≤ 1 * 2 ^ (7 * 9) := Nat.mul_le_mul_right _ (by omega)
                  omega
                · have h1 : (l.getD k 0).toNat * 2 ^ (7 * k) ≤ 127 * 2 ^ (7 * k) := Nat.mul_le_mul_right _ (by omega)
                  have h2 : 2 ^ (7 * k) ≤ 2 ^ 56 := Nat.pow_le_pow_right (by decide) (by omega)
                  omega)
              generalize lebS l k + (l.getD k 0).toNat * 2 ^ (7 * k) = T at *
              have h3 : (((k : Int) == 9) = true ∧ ¬ 1 < l.getD k 0 ∧ 0 < (k : Int) ∧ (l.getD k 0 == 0) = false) ∨ (((k : Int) == 9) = false ∧ 0 < (k : Int) ∧ (l.getD k 0 == 0) = false) ∨ (((k : Int) == 9) = false ∧ ¬ 0 < (k : Int)) := by
                simp only [beq_iff_eq, beq_eq_false_iff_ne]
                omega
              have hcl : ∀ i, i < k + 1 → ∃ y : Nat, y < 256 ∧ l.getD i 0 = (y : Int) ∧ w.cell? ⟨b, off + i, none⟩ = some (.int .u8 (y : Int)) := fun i hi => by
                obtain ⟨b', off', e1, hci⟩ := hc.out i (by omega)
                simp only [Option.some.injEq, Addr.mk.injEq, and_true] at e1
                obtain ⟨rfl, rfl⟩ := e1
                obtain ⟨y0, y1⟩ := byte_at hB (show i < l.length by omega)
                exact ⟨(l.getD i 0).toNat, by omega, by omega, by rw [hci, Int.toNat_of_nonneg y0]⟩
              have HCL := hd_ hcl
              clear hcl hE HX HA hc h0 h9
              generalize l.getD k 0 = x at *
              have hkl : (k : Int) < 10 := by omega
              rcases h3 with ⟨f1, f2, f3, f4⟩ | ⟨f1, f3, f4⟩ | ⟨f1, f3⟩
              all_goals
                go_wp2
                go_loop [6, 7] (fun vv vi => ∃ (m V : Nat) (j : Int), j = (m : Int) - 1 ∧ m ≤ k + 1 ∧ vi = .int .i64 j ∧ vv = .int .u64 (V : Int) ∧ Hid (V * 2 ^ (7 * m) + lebS l m = T)) (fun _ i => (intOf i + 1).toNat)
                case atStart => exact ⟨k + 1, 0, k, by omega, Nat.le_refl _, rfl, rfl, HT0⟩
                case round =>
                  clear HT0 hcell hx x0 x1
                  obtain ⟨m, V, j, hj, hmk, rfl, rfl, HV⟩ := hrel
                  by_cases hm0 : m = 0
                  · subst hm0
                    obtain rfl : j = -1 := by omega
                    have HVT : Hid (V = T) := hd_ (by have := HV.out; simpa [lebS] using this)
                    clear HV hj
                    go_wp2
                    go_ret3
                    rw [HE.out, ← HVT.out]
                    exact ⟨rfl, rfl⟩
                  · obtain ⟨i, rfl⟩ : ∃ i, m = i + 1 := ⟨m - 1, by omega⟩
                    obtain rfl : j = (i : Int) := by omega
                    obtain ⟨y, hy, hyl, hcy⟩ := HCL.out i hmk
                    have hst := read_step HV.out
                    rw [hyl, Int.toNat_natCast] at hst
                    have hle := read_le hst
                    have hTb := HTb.out
                    have hVb : V * 128 + y % 128 < 18446744073709551616 := by omega
                    have HST := hd_ hst
                    clear hst hle hTb hyl HV hj
                    go_wp2
                    go_round
                    case rel => exact ⟨i, V * 128 + y % 128, (i : Int) - 1, rfl, by omega, rfl, by go_num, HST⟩
                    case measure => (simp [intOf]; try omega)
    · obtain rfl : k = l.length := by omega
      by_cases h10 : l.length < 10
      · have HE := hd_ (HX.out.symm.trans (lebD_short rfl h10 HA.out))
        have h10I : (l.length : Int) < 10 := by omega
        clear HA hc HX
        go_wp2
        go_ret3
        rw [HE.out]
        exact ⟨rfl, rfl⟩
      · have HE := hd_ (HX.out.symm.trans (lebD_long (Nat.le_refl _) (by omega) HA.out))
        have h10I : ¬ (l.length : Int) < 10 := by omega
        clear HA hc HX
        go_wp2
        go_ret3
        rw [HE.out]
        exact ⟨rfl, rfl⟩
end Go.Proofs.Ytcaljnlicohkaaa
