/- Plain laws: words, numbers and texts as they are printed. Conditions: none. -/
import Derived.Test.YtdhkmgloghlnnaaGreatDoorPe
import Derived.Test.YtdhkmgloghlnnaaGreatDoorPe
import Derived.Test.YtdhkmgloghlnnaaGreatDoorPa
namespace Go.KM.P1
open Go Go.KM
open Go.KM.Fam (Dn dflt)
open Go.KM.Enc (cells sz mkE glob gany u8)
set_option autoImplicit false
set_option linter.unusedVariables false
set_option linter.unusedSimpArgs false
set_option maxRecDepth 100000
theorem room_len {n m : Nat} (h : n + m ≤ 140737488355328) : room (n + m) 1 = true := room_ok (by omega)
theorem strB_len (s : ByteArray) : (strB s).length = s.size := by unfold strB; rw [List.length_map, size_data]
theorem strB_app (s t : ByteArray) : strB (s ++ t) = strB s ++ strB t := by unfold strB; rw [ba_app, List.map_append]
theorem strOf_strB (s : ByteArray) : strOfBytes (strB s) = s := by
  apply ba_ext
  rw [strOf_data]
  unfold strB
  rw [List.map_map]
  conv => rhs; rw [← List.map_id s.data.toList]
  apply List.map_congr_left
  intro b _
  simp
theorem ba_size_app (s t : ByteArray) : (s ++ t).size = s.size + t.size := by rw [size_data, ba_app, List.length_append, ← size_data, ← size_data]
theorem ba_assoc (s t u : ByteArray) : s ++ t ++ u = s ++ (t ++ u) := ba_ext (by rw [ba_app, ba_app, ba_app, ba_app, List.append_assoc])
theorem ba_nil (s : ByteArray) : s ++ ⟨#[]⟩ = s := ba_ext (by rw [ba_app]; simp)
theorem nil_ba (s : ByteArray) : ⟨#[]⟩ ++ s = s := ba_ext (by rw [ba_app]; simp)
theorem cat_ok {x y : ByteArray} (h : x.size + y.size < 4611686018427387904) : decide (x.size + y.size < 2 ^ 62) = true := decide_eq_true (by simpa using h)
theorem bt_strB {s : ByteArray} {i : Nat} (h : i < (strB s).length) : bt s (i : Int) = (strB s)[i] := by
  have h' : i < s.data.toList.length := by unfold strB at h; simpa using h
  have := bt_get (s := s) (k := i) (List.getElem?_eq_getElem h')
  rw [this]
  simp [strB]
theorem strB_rg (s : ByteArray) : ∀ b ∈ strB s, 0 ≤ b ∧ b < 256 := by
  intro b hb
  obtain ⟨c, _, rfl⟩ := List.mem_map.1 hb
  have := c.toNat_lt
  omega
theorem wraps_u8 (n : Int) (h0 : 0 ≤ n) (h1 : n < 2 ^ 8) : IntKind.u8.wrap n = n := by rw [w8_eq]; omega
theorem lo4 {b : Int} (h0 : 0 ≤ b) (h1 : b < 256) : bitAnd .u8 b 15 = b % 16 := bits_mask .u8 8 (by decide) wraps_u8 4 (by decide) b h0 (by omega)
theorem hi4 {b : Int} (h0 : 0 ≤ b) (h1 : b < 256) : shrI .u8 b 4 = b / 16 := by
  unfold shrI
  rw [show (2 : Int) ^ min (Int.toNat 4) IntKind.u8.bits = 16 by decide]
  exact Int.fdiv_eq_ediv_of_nonneg b (by decide)
def dig : ByteArray := ⟨#[48, 49, 50, 51, 52, 53, 54, 55, 56, 57, 97, 98, 99, 100, 101, 102]⟩
def bare (b : Int) : Bool := decide (b ≥ 32) && (decide (b ≤ 126) && (b != 34 && b != 92))
def qb (b : Int) : List Int := if bare b = true then [b] else [92, bt dig (b / 16), bt dig (b % 16)]
theorem qb_len (b : Int) : (qb b).length ≤ 3 := by unfold qb; split <;> simp
theorem R_bare (b : Int) : R.l1Bare b = some (bare b) := by
  rw [R.l1Bare_eq]; unfold bare
  cases decide (b ≥ 32) <;> cases decide (b ≤ 126) <;> cases (b != 34) <;> rfl
theorem in16 {d : Int} (h0 : 0 ≤ d) (h1 : d < 16) : inB d dig.size = true := inB_iff.2 ⟨h0, by show d < (16 : Nat); omega⟩
theorem flat_len {α : Type} (F : α → List Int) (B : Nat) : ∀ (l : List α), (∀ x ∈ l, (F x).length ≤ B) → (l.flatMap F).length ≤ l.length * B
  | [], _ => by simp
  | x :: l, h => by
    have h1 := h x (by simp)
    have h2 := flat_len F B l fun y hy => h y (by simp [hy])
    rw [List.flatMap_cons, List.length_append, List.length_cons, Nat.succ_mul]; omega
theorem flat_drop {l : List Int} {i : Nat} (h : i < l.length) (F : Int → List Int) : (l.drop i).flatMap F = F l[i] ++ (l.drop (i + 1)).flatMap F := by rw [drop_get h, List.flatMap_cons]
theorem WB (b : Bool) (out : List Int) (c : Int) (h : out.length ≤ 70368744177664) : G.strings_Builder_WriteByte (b, out) c = some (true, (true, out ++ [c])) := by
  rw [G.strings_Builder_WriteByte_eq, bif_t (room_len (by simp; omega))]
section
variable (s : ByteArray) (hs : s.size ≤ 1048576)
include hs
theorem R_quote_loop : ∀ (m i : Nat), i + m = (strB s).length → ∀ out : List Int, out.length ≤ 3 * i + 1 → R.l1Quote.l244 s out dig i = some (strOfBytes (out ++ (((strB s).drop i).flatMap qb ++ [34]))) := by
  have hl := strB_len s
  intro m
  induction m with
  | zero =>
    intro i hi out ho
    rw [R.l1Quote.l244_eq, bif_f (ge_dec (by omega)), bif_t (room_len (by simp; omega)), List.drop_eq_nil_of_le (by omega)]
    simp
  | succ m ih =>
    intro i hi out ho
    have hil : i < (strB s).length := by omega
    obtain ⟨h0, h1⟩ := strB_rg s _ (List.getElem_mem hil)
    have hI : inB (i : Int) s.size = true := inB_nat (by omega)
    rw [R.l1Quote.l244_eq, bif_t (lt_dec (by omega)), hI, R_bare, Option.bind_some, bt_strB hil, flat_drop hil, wi_succ (by omega)]
    simp only [cond_true]
    have e1 : IntKind.u8.wrap ((strB s)[i].tdiv 16) = (strB s)[i] / 16 := by rw [Int.tdiv_eq_ediv_of_nonneg h0, w8_eq]; omega
    have e2 : (strB s)[i].tmod 16 = (strB s)[i] % 16 := Int.tmod_eq_emod_of_nonneg h0
    rw [e1, e2]
    cases hb : bare (strB s)[i] with
    | true =>
      simp only [cond_true]
      have eq : qb (strB s)[i] = [(strB s)[i]] := by unfold qb; rw [if_pos hb]
      rw [bif_t (room_len (by simp; omega)), ih (i + 1) (by omega) _ (by simp; omega), eq]
      simp
    | false =>
      simp only [cond_false]
      have eq : qb (strB s)[i] = [92, bt dig ((strB s)[i] / 16), bt dig ((strB s)[i] % 16)] := by unfold qb; rw [if_neg (by simp [hb])]
      rw [bif_t (in16 (by omega) (by omega)), bif_t (in16 (by omega) (by omega)), bif_t (room_len (by simp; omega)), ih (i + 1) (by omega) _ (by simp; omega), eq]
      simp
theorem I_quote_loop : ∀ (m i : Nat), i + m = (strB s).length → ∀ (b : Bool) (out : List Int), out.length ≤ 3 * i + 1 → I.quote.l244 s i b out = some (strOfBytes (out ++ (((strB s).drop i).flatMap qb ++ [34]))) := by
  have hl := strB_len s
  intro m
  induction m with
  | zero =>
    intro i hi b out ho
    rw [I.quote.l244_eq, bif_f (ge_dec (by omega)), WB _ _ _ (by omega), Option.bind_some, List.drop_eq_nil_of_le (by omega)]
    simp
  | succ m ih =>
    intro i hi b out ho
    have hil : i < (strB s).length := by omega
    obtain ⟨h0, h1⟩ := strB_rg s _ (List.getElem_mem hil)
    have hI : inB (i : Int) s.size = true := inB_nat (by omega)
    have esc : bare (strB s)[i] = false → ((G.strings_Builder_WriteByte (b, out) 92).bind fun (r0 : (Bool × (Bool × List Int))) =>
        bif inB ((strB s)[i] / 16) dig.size then
          (G.strings_Builder_WriteByte r0.snd (bt dig ((strB s)[i] / 16))).bind fun (r1 : (Bool × (Bool × List Int))) =>
          bif inB ((strB s)[i] % 16) dig.size then
            (G.strings_Builder_WriteByte r1.snd (bt dig ((strB s)[i] % 16))).bind fun (r2 : (Bool × (Bool × List Int))) =>
            I.quote.l244 s ((i + 1 : Nat) : Int) r2.snd.fst r2.snd.snd
          else none
        else none) = some (strOfBytes (out ++ (qb (strB s)[i] ++ ((strB s).drop (i + 1)).flatMap qb ++ [34]))) := fun hb => by
      have eq : qb (strB s)[i] = [92, bt dig ((strB s)[i] / 16), bt dig ((strB s)[i] % 16)] := by unfold qb; rw [if_neg (by simp [hb])]
      rw [WB _ _ _ (by omega), Option.bind_some, bif_t (in16 (by omega) (by omega)), WB _ _ _ (by simp; omega), Option.bind_some, bif_t (in16 (by omega) (by omega)), WB _ _ _ (by simp; omega), Option.bind_some, ih (i + 1) (by omega) _ _ (by simp; omega), eq]
      simp
    rw [I.quote.l244_eq, bif_t (lt_dec (by omega)), hI, bt_strB hil, flat_drop hil, wi_succ (by omega), hi4 h0 h1, lo4 h0 h1]
    simp only [cond_true]
    by_cases c1 : (strB s)[i] < 32
    · rw [bif_t (decide_eq_true c1)]
      exact esc (by unfold bare; rw [decide_eq_false (by omega)]; rfl)
    · rw [bif_f (decide_eq_false c1)]
      by_cases c2 : (strB s)[i] > 126
      · rw [bif_t (decide_eq_true c2)]
        exact esc (by unfold bare; rw [decide_eq_false (p := (strB s)[i] ≤ 126) (by omega)]; simp)
      · rw [bif_f (decide_eq_false c2)]
        by_cases c3 : (strB s)[i] = 34
        · rw [bif_t (beq_iff_eq.2 c3)]
          exact esc (by unfold bare; rw [c3]; rfl)
        · rw [bif_f (beq_eq_false_iff_ne.2 c3)]
          by_cases c4 : (strB s)[i] = 92
          · rw [bif_t (beq_iff_eq.2 c4)]
            exact esc (by unfold bare; rw [c4]; rfl)
          · rw [bif_f (beq_eq_false_iff_ne.2 c4)]
            have hb : bare (strB s)[i] = true := by
              unfold bare
              rw [decide_eq_true (p := (strB s)[i] ≥ 32) (by omega), decide_eq_true (p := (strB s)[i] ≤ 126) (by omega)]
              simp [c3, c4]
            have eq : qb (strB s)[i] = [(strB s)[i]] := by unfold qb; rw [if_pos hb]
            rw [WB _ _ _ (by omega), Option.bind_some, ih (i + 1) (by omega) _ _ (by simp; omega), eq]
            simp
theorem quote_same : ∃ q : ByteArray, R.l1Quote s = some q ∧ I.quote s = some q ∧ q.size ≤ 3 * s.size + 2 := by
  refine ⟨strOfBytes ([34] ++ (((strB s).drop 0).flatMap qb ++ [34])), ?_, ?_, ?_⟩
  · rw [R.l1Quote_eq]; exact R_quote_loop s hs _ 0 (Nat.zero_add _) [34] (by simp)
  · rw [I.quote_eq, WB _ _ _ (by simp), Option.bind_some]; exact I_quote_loop s hs _ 0 (Nat.zero_add _) true [34] (by simp)
  · rw [strOf_size]
    have := flat_len qb 3 (strB s) fun b _ => qb_len b
    rw [strB_len] at this
    simp only [List.drop_zero, List.length_append, List.length_cons, List.length_nil]
    omega
end
theorem R_dec (u : Nat) : u < 18446744073709551616 → R.l1Decimal (u : Int) = some ⟨(Lib.decDigits u).toArray⟩ := by
  induction u using Nat.strongRecOn with
  | ind u ih =>
    intro hu
    rw [R.l1Decimal_eq]
    by_cases h : u < 10
    · rw [bif_t (decide_eq_true (by omega)), dec_small h]
      congr 1
      apply ba_ext
      rw [strOf_data]
      rw [wu (by omega) (by omega), w8_eq]
      simp only [List.map_cons, List.map_nil]
      congr 2
      omega
    · rw [bif_f (decide_eq_false (by omega))]
      have e1 : IntKind.u64.wrap ((u : Int).tdiv 10) = ((u / 10 : Nat) : Int) := by rw [Int.tdiv_eq_ediv_of_nonneg (by omega), wu (by omega) (by omega)]; omega
      have e2 : IntKind.u8.wrap (IntKind.u64.wrap (48 + (u : Int).tmod 10)) = ((48 + u % 10 : Nat) : Int) := by
        rw [Int.tmod_eq_emod_of_nonneg (by omega), wu (by omega) (by omega), w8_eq]; omega
      rw [e1, e2, ih (u / 10) (by omega) (by omega), Option.bind_some]
      have hl := dec_len20 (u := u / 10) (by omega)
      rw [bif_t (cat_ok (by rw [strOf_size, size_data]; simp; omega))]
      congr 1
      apply ba_ext
      rw [ba_app, strOf_data, dec_big h]
      simp only [List.map_cons, List.map_nil, Int.toNat_natCast]
def tw (t : Int) : ByteArray := ([⟨#[]⟩, ⟨#[98, 111, 111, 108]⟩, ⟨#[116, 101, 120, 116]⟩, ⟨#[117, 56]⟩, ⟨#[117, 49, 54]⟩, ⟨#[117, 51, 50]⟩, ⟨#[117, 54, 52]⟩, ⟨#[105, 56]⟩, ⟨#[105, 49, 54]⟩, ⟨#[105, 51, 50]⟩, ⟨#[105, 54, 52]⟩] : List ByteArray).getD t.toNat ⟨#[]⟩
theorem R_tw {t : Int} (h1 : 1 ≤ t) (h2 : t ≤ 10) : R.l1TypeWord t = some (tw t) := by
  rw [R.l1TypeWord_eq]
  have : t = 1 ∨ t = 2 ∨ t = 3 ∨ t = 4 ∨ t = 5 ∨ t = 6 ∨ t = 7 ∨ t = 8 ∨ t = 9 ∨ t = 10 := by omega
  rcases this with rfl | rfl | rfl | rfl | rfl | rfl | rfl | rfl | rfl | rfl <;> rfl
theorem tw_size {t : Int} (h1 : 1 ≤ t) (h2 : t ≤ 10) : (tw t).size ≤ 4 := by
  have : t = 1 ∨ t = 2 ∨ t = 3 ∨ t = 4 ∨ t = 5 ∨ t = 6 ∨ t = 7 ∨ t = 8 ∨ t = 9 ∨ t = 10 := by omega
  rcases this with rfl | rfl | rfl | rfl | rfl | rfl | rfl | rfl | rfl | rfl <;> decide
def mk_ (o : Int) : ByteArray := ([⟨#[]⟩, ⟨#[124, 124]⟩, ⟨#[38, 38]⟩, ⟨#[61, 61]⟩, ⟨#[33, 61]⟩, ⟨#[60]⟩, ⟨#[60, 61]⟩, ⟨#[62]⟩, ⟨#[62, 61]⟩, ⟨#[43]⟩, ⟨#[45]⟩, ⟨#[124]⟩, ⟨#[94]⟩, ⟨#[42]⟩, ⟨#[47]⟩, ⟨#[37]⟩, ⟨#[38]⟩, ⟨#[60, 60]⟩, ⟨#[62, 62]⟩] : List ByteArray).getD o.toNat ⟨#[]⟩
theorem R_mk {o : Int} (h1 : 1 ≤ o) (h2 : o ≤ 18) : ∃ r, R.l2Mark o = some (mk_ o, r) ∧ (mk_ o).size ≤ 2 := by
  rw [R.l2Mark_eq]
  have : o = 1 ∨ o = 2 ∨ o = 3 ∨ o = 4 ∨ o = 5 ∨ o = 6 ∨ o = 7 ∨ o = 8 ∨ o = 9 ∨ o = 10 ∨ o = 11 ∨ o = 12 ∨ o = 13 ∨ o = 14 ∨ o = 15 ∨ o = 16 ∨ o = 17 ∨ o = 18 := by omega
  rcases this with rfl | rfl | rfl | rfl | rfl | rfl | rfl | rfl | rfl | rfl | rfl | rfl | rfl | rfl | rfl | rfl | rfl | rfl <;> exact ⟨_, rfl, by decide⟩
def bw (o : Int) : ByteArray := ([⟨#[]⟩, ⟨#[114, 101, 97, 100]⟩, ⟨#[104, 97, 115]⟩, ⟨#[108, 105, 115, 116]⟩, ⟨#[116, 111, 111, 108]⟩, ⟨#[97, 114, 103]⟩, ⟨#[108, 101, 110]⟩, ⟨#[97, 116]⟩, ⟨#[99, 117, 116]⟩, ⟨#[102, 105, 110, 100]⟩, ⟨#[99, 104, 114]⟩, ⟨#[100, 101, 99]⟩, ⟨#[110, 117, 109]⟩] : List ByteArray).getD o.toNat ⟨#[]⟩
theorem R_bw {o : Int} (h1 : 1 ≤ o) (h2 : o ≤ 12) : ∃ r, R.l1BuiltWord o = some (bw o, r) ∧ (bw o).size ≤ 4 := by
  rw [R.l1BuiltWord_eq]
  have : o = 1 ∨ o = 2 ∨ o = 3 ∨ o = 4 ∨ o = 5 ∨ o = 6 ∨ o = 7 ∨ o = 8 ∨ o = 9 ∨ o = 10 ∨ o = 11 ∨ o = 12 := by omega
  rcases this with rfl | rfl | rfl | rfl | rfl | rfl | rfl | rfl | rfl | rfl | rfl | rfl <;> exact ⟨_, rfl, by decide⟩
def uw (o : Int) : ByteArray := ([⟨#[]⟩, ⟨#[45]⟩, ⟨#[33]⟩, ⟨#[126]⟩] : List ByteArray).getD o.toNat ⟨#[]⟩
theorem R_uw {o : Int} (h1 : 1 ≤ o) (h2 : o ≤ 3) : R.l2UnMark o = some (uw o) ∧ (uw o).size ≤ 1 := by
  rw [R.l2UnMark_eq]
  have : o = 1 ∨ o = 2 ∨ o = 3 := by omega
  rcases this with rfl | rfl | rfl <;> exact ⟨rfl, by decide⟩
end Go.KM.P1
namespace Go.KM.P1
open Go Go.KM
open Go.KM.Fam (Dn dflt)
open Go.KM.Enc (cells sz mkE glob gany u8)
set_option autoImplicit false
set_option linter.unusedVariables false
set_option linter.unusedSimpArgs false
set_option maxRecDepth 100000
theorem t1 {c : Bool} {x : Option Bool} : (bif c then x else some false) = some true ↔ c = true ∧ x = some true := by cases c <;> simp
theorem t2 {c : Bool} {x : Option Bool} : (bif c then x else none) = some true ↔ c = true ∧ x = some true := by cases c <;> simp
theorem t3 {c : Bool} {x : Option Bool} : (bif c then some false else x) = some true ↔ c = false ∧ x = some true := by cases c <;> simp
theorem len1 {l : List Int} (h : ((l.length : Int) == 1) = true) : ∃ a, l = [a] := by
  have h : l.length = 1 := by have := beq_iff_eq.1 h; omega
  match l, h with
  | [a], _ => exact ⟨a, rfl⟩
theorem len2 {l : List Int} (h : ((l.length : Int) == 2) = true) : ∃ a b, l = [a, b] := by
  have h : l.length = 2 := by have := beq_iff_eq.1 h; omega
  match l, h with
  | [a, b], _ => exact ⟨a, b, rfl⟩
variable {xo xt xn : Int} {xs : ByteArray} {kd : Int} {l : List Int}
theorem sh_5 (h : R.l2Fits ⟨5, xo, xt, xn, xs, kd⟩ l = some true) : ∃ a, l = [a] ∧ isE a = true := by
  rw [gR_5] at h
  simp only [t1, t2, R_isE, Option.bind_some, Option.some.injEq] at h
  obtain ⟨a, rfl⟩ := len1 h.1
  exact ⟨a, rfl, h.2.2⟩
theorem sh_9 (h : R.l2Fits ⟨9, xo, xt, xn, xs, kd⟩ l = some true) : ∃ a, l = [a] ∧ isE a = true := by
  rw [gR_9] at h
  simp only [t1, t2, R_isE, Option.bind_some, Option.some.injEq] at h
  obtain ⟨a, rfl⟩ := len1 h.1
  exact ⟨a, rfl, h.2.2⟩
theorem sh_10 (h : R.l2Fits ⟨10, xo, xt, xn, xs, kd⟩ l = some true) : ∃ a, l = [a] ∧ isE a = true := by
  rw [gR_10] at h
  simp only [t1, t2, R_isE, Option.bind_some, Option.some.injEq] at h
  obtain ⟨a, rfl⟩ := len1 h.1
  exact ⟨a, rfl, h.2.2⟩
theorem sh_11 (h : R.l2Fits ⟨11, xo, xt, xn, xs, kd⟩ l = some true) : ∃ a, l = [a] ∧ isE a = true := by
  rw [gR_11] at h
  simp only [t1, t2, R_isE, Option.bind_some, Option.some.injEq] at h
  obtain ⟨a, rfl⟩ := len1 h.1
  exact ⟨a, rfl, h.2.2⟩
theorem sh_17 (h : R.l2Fits ⟨17, xo, xt, xn, xs, kd⟩ l = some true) : ∃ a, l = [a] ∧ isE a = true := by
  rw [gR_17] at h
  simp only [t1, t2, R_isE, Option.bind_some, Option.some.injEq] at h
  obtain ⟨a, rfl⟩ := len1 h.1
  exact ⟨a, rfl, h.2.2⟩
theorem sh_19 (h : R.l2Fits ⟨19, xo, xt, xn, xs, kd⟩ l = some true) : ∃ a, l = [a] ∧ isE a = true := by
  rw [gR_19] at h
  simp only [t1, t2, R_isE, Option.bind_some, Option.some.injEq] at h
  obtain ⟨a, rfl⟩ := len1 h.1
  exact ⟨a, rfl, h.2.2⟩
theorem sh_6 (h : R.l2Fits ⟨6, xo, xt, xn, xs, kd⟩ l = some true) : ∃ a b, l = [a, b] ∧ isE a = true ∧ isE b = true := by
  rw [gR_6, t1] at h
  obtain ⟨a, b, rfl⟩ := len2 h.1
  have h2 := h.2
  rw [rE _ (by simp)] at h2
  simp only [Option.bind_some, Option.some.injEq, List.all_cons, List.all_nil, Bool.and_true, Bool.and_eq_true] at h2
  exact ⟨a, b, rfl, h2⟩
theorem sh_18 (h : R.l2Fits ⟨18, xo, xt, xn, xs, kd⟩ l = some true) : ∃ a b, l = [a, b] ∧ isE a = true ∧ isE b = true := by
  rw [gR_18, t1] at h
  obtain ⟨a, b, rfl⟩ := len2 h.1
  have h2 := h.2
  rw [rE _ (by simp)] at h2
  simp only [Option.bind_some, Option.some.injEq, List.all_cons, List.all_nil, Bool.and_true, Bool.and_eq_true] at h2
  exact ⟨a, b, rfl, h2⟩
theorem sh_7 (hl : l.length ≤ 100000) (h : R.l2Fits ⟨7, xo, xt, xn, xs, kd⟩ l = some true) : l.all isE = true := by
  rw [gR_7] at h
  simp only [t1, rE l hl, Option.bind_some, Option.some.injEq] at h
  exact h.2
theorem sh_8 (hl : l.length ≤ 100000) (h1 : 1 ≤ xo) (h2 : xo ≤ 12) (h : R.l2Fits ⟨8, xo, xt, xn, xs, kd⟩ l = some true) : l.all isE = true := by
  obtain ⟨r, e, _⟩ := R_bw h1 h2
  rw [gR_8, e] at h
  simp only [t1, rE l hl, Option.bind_some, Option.some.injEq] at h
  exact h.2
theorem sh_12 (h : R.l2Fits ⟨12, xo, xt, xn, xs, kd⟩ l = some true) : (∃ a, l = [a, 21] ∧ isE a = true) ∨ ∃ a c, l = [a, 21, c] ∧ isE a = true ∧ (c = 21 ∨ c = 12) := by
  rw [gR_12] at h
  simp only [t1, t2, R_isE, Option.bind_some, decide_eq_true_eq, beq_iff_eq] at h
  obtain ⟨h1, h2, _, h4, _, h6, h7⟩ := h
  have hl : l.length = 2 ∨ l.length = 3 := by omega
  rcases hl with hl | hl
  · match l, hl, h4, h6 with
    | [a, b], _, h4, h6 => exact .inl ⟨a, by simp at h6; rw [h6], h4⟩
  · match l, hl, h4, h6, h7 with
    | [a, b, c], _, h4, h6, h7 =>
      refine .inr ⟨a, c, by simp at h6; rw [h6], h4, ?_⟩
      have e : inB 2 [a, b, c].length = true := rfl
      have e2 : (([a, b, c].length : Int) == 2) = false := rfl
      rw [e, e2] at h7
      simp only [cond_true, cond_false] at h7
      have e3 : [a, b, c].getD 2 0 = c := rfl
      rw [e3] at h7
      by_cases hc : c = 21
      · exact .inl hc
      · rw [beq_eq_false_iff_ne.2 hc] at h7
        simp only [cond_false, Option.some.injEq, beq_iff_eq] at h7
        exact .inr h7
theorem sh_13 (h : R.l2Fits ⟨13, xo, xt, xn, xs, kd⟩ l = some true) : ∃ a, l = [a, 21] ∧ isE a = true := by
  rw [gR_13] at h
  simp only [t1, t2, R_isE, Option.bind_some, Option.some.injEq] at h
  obtain ⟨h1, _, h3, _, h5⟩ := h
  obtain ⟨a, b, rfl⟩ := len2 h1
  exact ⟨a, by have := beq_iff_eq.1 h5; simp at this; rw [this], h3⟩
theorem sh_16 (h : R.l2Fits ⟨16, xo, xt, xn, xs, kd⟩ l = some true) : l = [] ∨ ∃ a, l = [a] ∧ isE a = true := by
  rw [gR_16, t1, decide_eq_true_eq] at h
  have hl : l.length ≤ 1 := by omega
  match l, hl with
  | [], _ => exact .inl rfl
  | [a], _ =>
    have h2 := h.2
    rw [rE _ (by simp)] at h2
    simp only [Option.bind_some, Option.some.injEq, List.all_cons, List.all_nil, Bool.and_true] at h2
    exact .inr ⟨a, rfl, h2⟩
theorem sh_20 (h : R.l2Fits ⟨20, xo, xt, xn, xs, kd⟩ l = some true) : l = [7] := by
  rw [gR_20] at h
  simp only [t1, t2, Option.some.injEq] at h
  obtain ⟨a, rfl⟩ := len1 h.1
  have := beq_iff_eq.1 h.2.2
  simp at this
  rw [this]
theorem sh_21 (hl : l.length ≤ 100000) (h : R.l2Fits ⟨21, xo, xt, xn, xs, kd⟩ l = some true) : l.all isS = true := by
  rw [gR_21, rS l hl] at h
  exact Option.some.inj h
theorem sh_23 (hl : l.length ≤ 100000) (h1 : 1 ≤ l.length) (h : R.l2Fits ⟨23, xo, xt, xn, xs, kd⟩ l = some true) : (l.take (l.length - 1)).all (fun x => x == 22) = true ∧ l.length ≤ 9 ∧ l.getD (l.length - 1) 0 = 21 := by
  rw [gR_23] at h
  have := rP l hl (l.length - 1) 0 (by omega)
  have this : R.l2Fits.l3959422948 l l.length 0 = _ := this
  rw [this, t1, t1, List.drop_zero] at h
  exact ⟨h.1, of_decide_eq_true h.2.1, beq_iff_eq.1 (Option.some.inj h.2.2)⟩
theorem sh_24 (hl : l.length ≤ 100000) (h : R.l2Fits ⟨24, xo, xt, xn, xs, kd⟩ l = some true) : l.all (fun k => k == 23) = true ∧ 1 ≤ l.length ∧ l.length ≤ 60 := by
  rw [gR_24, rF l hl] at h
  have := Option.some.inj h
  simp only [Bool.and_eq_true, decide_eq_true_eq] at this
  exact ⟨this.1, this.2.1, this.2.2⟩
theorem fd_1 (h : R.l2Fields ⟨1, xo, xt, xn, xs, kd⟩ = some true) : 3 ≤ xt ∧ xt ≤ 10 := by
  rw [fR_1, t3, t3, R_integer] at h
  have h := h.2.2
  simp only [Option.bind_some, t1, Bool.and_eq_true, decide_eq_true_eq] at h
  exact h.1
theorem fd_5 (h : R.l2Fields ⟨5, xo, xt, xn, xs, kd⟩ = some true) : 1 ≤ xo ∧ xo ≤ 3 := by
  rw [fR_5] at h
  simp only [t1, t3, decide_eq_true_eq, Option.some.injEq] at h
  exact ⟨h.2.2.2.1, h.2.2.2.2⟩
theorem fd_6 (h : R.l2Fields ⟨6, xo, xt, xn, xs, kd⟩ = some true) : 1 ≤ xo ∧ xo ≤ 18 := by
  rw [fR_6] at h
  simp only [t1, t3, decide_eq_true_eq, Option.some.injEq] at h
  exact ⟨h.2.2.2.1, h.2.2.2.2⟩
theorem fd_8 (h : R.l2Fields ⟨8, xo, xt, xn, xs, kd⟩ = some true) : 1 ≤ xo ∧ xo ≤ 12 := by
  rw [fR_8] at h
  simp only [t1, t3, decide_eq_true_eq, Option.some.injEq] at h
  exact ⟨h.2.2.2.1, h.2.2.2.2⟩
theorem fd_9 (h : R.l2Fields ⟨9, xo, xt, xn, xs, kd⟩ = some true) : 3 ≤ xt ∧ xt ≤ 10 := by
  rw [fR_9, t3, t3, t3, R_integer] at h
  have h := h.2.2.2
  simp only [Option.bind_some, Option.some.injEq, Bool.and_eq_true, decide_eq_true_eq] at h
  exact h
theorem fd_22 (h : R.l2Fields ⟨22, xo, xt, xn, xs, kd⟩ = some true) : 1 ≤ xt ∧ xt ≤ 10 := by
  obtain ⟨b, _, hb⟩ := name_same xs
  rw [fR_22, t3, t3, hb, Option.bind_some, t3] at h
  simp only [t1, decide_eq_true_eq, Option.some.injEq] at h
  exact h.2.2.2
theorem fd_23 (h : R.l2Fields ⟨23, xo, xt, xn, xs, kd⟩ = some true) : 0 ≤ xt ∧ xt ≤ 10 := by
  obtain ⟨b, _, hb⟩ := name_same xs
  rw [fR_23, t3, t3, hb, Option.bind_some, t3] at h
  simp only [t1, decide_eq_true_eq, Option.some.injEq] at h
  exact h.2.2.2
end Go.KM.P1
namespace Go.KM.P1
open Go Go.KM
open Go.KM.Fam (Dn dflt)
open Go.KM.Enc (cells sz mkE glob gany u8)
set_option autoImplicit false
set_option linter.unusedVariables false
set_option linter.unusedSimpArgs false
set_option linter.unusedSectionVars false
set_option maxRecDepth 100000
def Wt (w : Nat → Nat) (out : List (List Nat)) : List Nat := tabl (fun acc ks => w acc.length + (ks.map fun k => acc.getD k 0).sum) out
def WW (w : Nat → Nat) (out : List (List Nat)) (j : Nat) : Nat := (Wt w out).getD j 0
theorem WW_eq {w : Nat → Nat} {out : List (List Nat)} {j : Nat} {ks : List Nat} (h : out[j]? = some ks) (hk : ∀ k ∈ ks, k < j) : WW w out j = w j + (ks.map (WW w out)).sum := by
  have hj : j < out.length := (List.getElem?_eq_some_iff.1 h).1
  unfold WW
  rw [List.getD_eq_getElem?_getD, show (Wt w out)[j]? = _ from tabl_get _ h, Option.getD_some, List.length_take, show (tabl _ out).length = _ from tabl_len _ out, Nat.min_eq_left (by omega)]
  congr 2
  apply List.map_congr_left
  intro k hkk
  exact getD_take _ (hk k hkk) 0
theorem sum_ge {f : Nat → Nat} : ∀ {ks : List Nat} {k : Nat}, k ∈ ks → f k ≤ (ks.map f).sum
  | x :: ks, k, h => by
    rw [List.map_cons, List.sum_cons]
    rcases List.mem_cons.1 h with rfl | h
    · omega
    · have := sum_ge (f := f) h; omega
def wj (L : List TNode) (j : Nat) : Nat := 4 * (L.getD j TNode.z).gText.size + 3000
section
variable {t : TTree} {out : List (List Nat)} {bs : List TNode_} {r : Nat} (h : Root t out bs r) (hI : ∀ x ∈ t.gNodes, I64 x.gN)
include h hI
theorem view {j : Nat} (hj : j < t.gNodes.length) : ∃ ks, out[j]? = some ks ∧ (∀ k ∈ ks, k < j) ∧ ks.length ≤ 12001 ∧ bs[j]? = some ⟨t.gNodes.getD j TNode.z, ks.map (fun k => bs[k]?), (j : Int)⟩ ∧
    R.l2Fits (t.gNodes.getD j TNode.z) (ks.map fun k => (t.gNodes.getD k TNode.z).gKind) = some true ∧ R.l2Fields (t.gNodes.getD j TNode.z) = some true ∧
    WW (wj t.gNodes) out j = wj t.gNodes j + (ks.map (WW (wj t.gNodes) out)).sum ∧ (∀ k ∈ ks, WW (wj t.gNodes) out k ≤ WW (wj t.gNodes) out j) ∧ (out.map toI).getD j [] = toI ks ∧ ∀ k ∈ ks, Hh out k + 1 ≤ Hh out j := by
  have hL := h.hL
  obtain ⟨ks, h1, h2, h3, h4, a, b, c, d, h5, h6, h7, h8, h9, h10⟩ := node_at hL hI h.hT hj
  have hg := h.gd j hj
  rw [hg, Bool.and_eq_true] at h10
  obtain ⟨rfl, rfl⟩ := h10
  have hw := WW_eq (w := wj t.gNodes) h1 h2
  rw [getD_lt hj]
  refine ⟨ks, h1, h2, by omega, h4, h8, h7, hw, fun k hk => ?_, ?_, fun k hk => ?_⟩
  · have := sum_ge (f := WW (wj t.gNodes) out) hk; omega
  · rw [List.getD_eq_getElem?_getD, List.getElem?_map, h1]; rfl
  · have := Hh_eq h1 h2
    have h11 : mxl (Hh out) ks ≤ Hh out j := by omega
    exact mxl_le.1 h11 k hk
def Ex (t : TTree) (out : List (List Nat)) (bs : List TNode_) (j : Nat) (s : ByteArray) : Prop :=
  I.node_show bs[j]? = some s ∧ R.l2Pen_expr (t.gNodes, out.map toI) (j : Int) = some (s, (t.gNodes, out.map toI)) ∧ s.size + 100 ≤ WW (wj t.gNodes) out j
def Hd (t : TTree) (out : List (List Nat)) (bs : List TNode_) (j : Nat) (s : ByteArray) : Prop :=
  I.node_show_1 bs[j]? = some s ∧ R.l2Pen_held (t.gNodes, out.map toI) (j : Int) = some (s, (t.gNodes, out.map toI)) ∧ s.size + 98 ≤ WW (wj t.gNodes) out j
theorem held {j : Nat} (hj : j < t.gNodes.length) (hW : WW (wj t.gNodes) out j ≤ 70368744177664) {s : ByteArray} (hs : Ex t out bs j s) : ∃ q, Hd t out bs j q := by
  obtain ⟨a1, a2, a3⟩ := hs
  obtain ⟨ks, h1, h2, h3, h4, _⟩ := view h hI hj
  have hsome : bs[j]?.isSome = true := by rw [h4]; rfl
  have hg : (bs[j]?.getD TNode_.z).gNode = t.gNodes.getD j TNode.z := by rw [h4]; rfl
  have c1 : (⟨#[40]⟩ : ByteArray).size = 1 := rfl
  have c2 : (⟨#[41]⟩ : ByteArray).size = 1 := rfl
  by_cases hk : (t.gNodes.getD j TNode.z).gKind = 6
  · refine ⟨⟨#[40]⟩ ++ s ++ ⟨#[41]⟩, ?_, ?_, ?_⟩
    · rw [I.node_show_1_eq, bif_t hsome, bif_t (by rw [hg, hk]; rfl), a1, Option.bind_some, bif_t (cat_ok (by rw [c1]; omega)), bif_t (cat_ok (by rw [ba_size_app, c1, c2]; omega))]
    · rw [R.l2Pen_held_eq]
      simp only [Int.toNat_natCast]
      rw [bif_t (inB_nat hj), bif_t (by rw [hk]; rfl), a2, Option.bind_some, bif_t (cat_ok (by rw [c1]; simp only []; omega)), bif_t (cat_ok (by simp only []; rw [ba_size_app, c1, c2]; omega))]
    · rw [ba_size_app, ba_size_app, c1, c2]; omega
  · refine ⟨s, ?_, ?_, by omega⟩
    · rw [I.node_show_1_eq, bif_t hsome, bif_f (by rw [hg]; simpa using hk), a1, Option.bind_some]
    · rw [R.l2Pen_held_eq]
      simp only [Int.toNat_natCast]
      rw [bif_t (inB_nat hj), bif_f (by simpa using hk), a2, Option.bind_some]
end
end Go.KM.P1
namespace Go.KM.P1
open Go Go.KM
open Go.KM.Fam (Dn dflt)
open Go.KM.Enc (cells sz mkE glob gany u8)
set_option autoImplicit false
set_option linter.unusedVariables false
set_option linter.unusedSimpArgs false
set_option linter.unusedSectionVars false
set_option maxRecDepth 100000
theorem join_snoc (s y : ByteArray) : ∀ (xs : List ByteArray), xs ≠ [] → joinB (xs ++ [y]) s = joinB xs s ++ s ++ y
  | [], h => absurd rfl h
  | [x], _ => rfl
  | x :: x' :: r, _ => by
    show x ++ s ++ joinB ((x' :: r) ++ [y]) s = x ++ s ++ joinB (x' :: r) s ++ s ++ y
    rw [join_snoc s y (x' :: r) (by simp)]
    simp only [ba_assoc]
theorem join_size (s : ByteArray) : ∀ (xs : List ByteArray), (joinB xs s).size ≤ (xs.map fun x => x.size + s.size).sum
  | [] => Nat.le_refl 0
  | [x] => by show x.size ≤ _; simp
  | x :: x' :: r => by
    have := join_size s (x' :: r)
    show (x ++ s ++ joinB (x' :: r) s).size ≤ _
    rw [ba_size_app, ba_size_app, List.map_cons, List.sum_cons]
    omega
def sepC : ByteArray := ⟨#[44, 32]⟩
theorem sum_le {f g : Nat → Nat} : ∀ {ks : List Nat}, (∀ k ∈ ks, f k ≤ g k) → (ks.map f).sum ≤ (ks.map g).sum
  | [], _ => Nat.le_refl _
  | x :: ks, h => by
    rw [List.map_cons, List.map_cons, List.sum_cons, List.sum_cons]
    have h1 := h x (by simp)
    have h2 := sum_le (ks := ks) fun k hk => h k (by simp [hk])
    omega
section
variable {t : TTree} {out : List (List Nat)} {bs : List TNode_} {r : Nat} (h : Root t out bs r) (hI : ∀ x ∈ t.gNodes, I64 x.gN)
include h hI
theorem lists {ks : List Nat} (hlen : ks.length ≤ 12001) (F : Nat → ByteArray) (hF : ∀ k ∈ ks, Ex t out bs k (F k)) (hW : (ks.map (WW (wj t.gNodes) out)).sum ≤ 70368744177664) (nd : TNode) (num : Int) :
    R.l2Pen_list (t.gNodes, out.map toI) (toI ks) = some (joinB (ks.map F) sepC, (t.gNodes, out.map toI)) ∧
    I.node_show_2 (some ⟨nd, ks.map (fun k => bs[k]?), num⟩) = some (⟨#[40]⟩ ++ joinB (ks.map F) sepC ++ ⟨#[41]⟩, some ⟨nd, ks.map (fun k => bs[k]?), num⟩) ∧
    (joinB (ks.map F) sepC).size ≤ (ks.map (WW (wj t.gNodes) out)).sum := by
  have c0 : sepC.size = 2 := rfl
  have c1 : (⟨#[40]⟩ : ByteArray).size = 1 := rfl
  have c2 : (⟨#[41]⟩ : ByteArray).size = 1 := rfl
  have hsz : ∀ i, (joinB ((ks.take i).map F) sepC).size ≤ (ks.map (WW (wj t.gNodes) out)).sum := fun i => by
    have h1 := join_size sepC ((ks.take i).map F)
    rw [List.map_map] at h1
    have h2 : ((ks.take i).map ((fun x => x.size + sepC.size) ∘ F)).sum ≤ ((ks.take i).map (WW (wj t.gNodes) out)).sum := sum_le fun k hk => by
      have := (hF k (List.mem_of_mem_take hk)).2.2
      show (F k).size + sepC.size ≤ _
      rw [c0]; omega
    have h3 : (ks.map (WW (wj t.gNodes) out)).sum = ((ks.take i).map (WW (wj t.gNodes) out)).sum + ((ks.drop i).map (WW (wj t.gNodes) out)).sum := by
      rw [← List.sum_append, ← List.map_append, List.take_append_drop]
    omega
  have hall := hsz ks.length
  rw [List.take_length] at hall
  refine ⟨?_, ?_, hall⟩
  · have hl : (toI ks).length = ks.length := by simp [toI]
    have loop : ∀ (m i : Nat), i + m = ks.length → R.l2Pen_list.l116 (toI ks) (strB (joinB ((ks.take i).map F) sepC)) i t.gNodes (out.map toI) = some (joinB (ks.map F) sepC, (t.gNodes, out.map toI)) := by
      intro m
      induction m with
      | zero =>
        intro i hi
        rw [R.l2Pen_list.l116_eq, bif_f (ge_dec (by omega)), List.take_of_length_le (by omega), List.map_id', strOf_strB]
      | succ m ih =>
        intro i hi
        have hil : i < ks.length := by omega
        have hil' : i < (toI ks).length := by omega
        have hgi : (toI ks).getD i 0 = (ks[i] : Int) := by rw [getD_lt hil']; simp [toI]
        have hEx := hF ks[i] (List.getElem_mem hil)
        have hk := sum_ge (f := WW (wj t.gNodes) out) (List.getElem_mem hil)
        have htake : ks.take (i + 1) = ks.take i ++ [ks[i]] := by rw [List.take_add_one, List.getElem?_eq_getElem hil]; rfl
        have ih := ih (i + 1) (by omega)
        rw [htake, List.map_append, List.map_cons, List.map_nil] at ih
        rw [R.l2Pen_list.l116_eq, bif_t (lt_dec hil')]
        have hs1 := hsz i
        by_cases h0 : i = 0
        · subst h0
          rw [bif_f (decide_eq_false (by omega)), bif_t (inB_nat hil'), Int.toNat_natCast, hgi, hEx.2.1, Option.bind_some]
          have e0 : strB (joinB ((ks.take 0).map F) sepC) = [] := rfl
          rw [e0, bif_t (room_len (by have := hEx.2.2; simp only [List.length_nil]; omega)), wi_succ (by omega)]
          exact ih
        · rw [bif_t (decide_eq_true (by omega)), bif_t (room_len (by rw [strB_len]; show _ + 2 ≤ _; omega)), bif_t (inB_nat hil'), Int.toNat_natCast, hgi, hEx.2.1, Option.bind_some]
          rw [join_snoc sepC _ _ (by cases ks with
            | nil => simp at hil
            | cons a b => cases i with
              | zero => exact absurd rfl h0
              | succ i => simp)] at ih
          have hne : (strB (joinB ((ks.take i).map F) sepC) ++ strB ⟨#[44, 32]⟩ ++ strB (F ks[i])) = strB (joinB ((ks.take i).map F) sepC ++ sepC ++ F ks[i]) := by rw [strB_app, strB_app]; rfl
          rw [bif_t (room_len (by
            have := hEx.2.2
            rw [List.length_append, strB_len]
            show _ + 2 + (F ks[i]).size ≤ _
            omega)), wi_succ (by omega)]
          show R.l2Pen_list.l116 (toI ks) (strB (joinB ((ks.take i).map F) sepC) ++ strB ⟨#[44, 32]⟩ ++ strB (F ks[i])) _ _ _ = _
          rw [hne]
          exact ih
    rw [R.l2Pen_list_eq]
    exact loop ks.length 0 (Nat.zero_add _)
  · have loop : ∀ (m i : Nat), i + m = ks.length → ∀ mm, I.node_show_2.l116 ((ks.take i).map F) (ks.map fun k => bs[k]?) (ks.map fun k => bs[k]?).length i mm = some (⟨#[40]⟩ ++ joinB (ks.map F) sepC ++ ⟨#[41]⟩, mm) := by
      have hl : (ks.map fun k => bs[k]?).length = ks.length := List.length_map _
      intro m
      induction m with
      | zero =>
        intro i hi mm
        have e : (ks.take i).map F = ks.map F := by rw [List.take_of_length_le (by omega)]
        rw [I.node_show_2.l116_eq, bif_f (ge_dec (by omega)), e]
        show (bif decide ((ks.map F).length ≤ 140737488355328) && decide ((joinB (ks.map F) sepC).size ≤ 140737488355328) then _ else _) = _
        rw [bif_t (by rw [List.length_map, decide_eq_true (by omega), decide_eq_true (by omega)]; rfl), bif_t (cat_ok (by rw [c1]; show 1 + (joinB (ks.map F) sepC).size < _; omega)), bif_t (cat_ok (by rw [ba_size_app, c1, c2]; show 1 + (joinB (ks.map F) sepC).size + 1 < _; omega))]
        rfl
      | succ m ih =>
        intro i hi mm
        have hil : i < ks.length := by omega
        have hil' : i < (ks.map fun k => bs[k]?).length := by omega
        have hgi : (ks.map fun k => bs[k]?).getD i none = bs[ks[i]]? := by rw [getD_lt hil']; simp
        have hEx := hF ks[i] (List.getElem_mem hil)
        have htake : ks.take (i + 1) = ks.take i ++ [ks[i]] := by rw [List.take_add_one, List.getElem?_eq_getElem hil]; rfl
        have ih := ih (i + 1) (by omega) mm
        rw [htake, List.map_append, List.map_cons, List.map_nil] at ih
        rw [I.node_show_2.l116_eq, bif_t (lt_dec hil'), bif_t (inB_nat hil'), Int.toNat_natCast, hgi, hEx.1, Option.bind_some, bif_t (room_ok (by simp; omega)), wi_succ (by omega)]
        exact ih
    rw [I.node_show_2_eq, bif_t (by rfl)]
    exact loop ks.length 0 (Nat.zero_add _) _
end
end Go.KM.P1
