/- Appending, making; parts of a tuple; every operation. Conditions: none. -/
import Derived.Test.YtdhkmgloghlnnaaGreatDoorKmL
import Derived.Lib.AppendStr
namespace Go.KM
open Go
open Fam (Dn dflt)
open Enc (cells sz mkE glob gany u8)
set_option autoImplicit false
set_option linter.unusedVariables false
set_option linter.unusedSimpArgs false
set_option linter.unusedSectionVars false
section
variable {P : Program}
theorem append_run (w : World) (t ty e : TypeId) (i : TypeInfo) (z : Value) (ht : P.underlying t = some (.slice e)) (hi : P.info? e = some i) (hz : i.zero = some z)
    (hzs : z.cells.size = i.size) (hsz : 0 < i.size) (v : Value) (n : Nat) (xs : List Value) (hown : w.ownsRow 0 e i.size v n xs)
    (a : Addr) (m c : Nat) (news : List Value) (hl : news.length = m * i.size) (hnews : ∀ j u, news[j]? = some u → w.cell? (a.add j) = some u) (h1 : ∀ u ∈ news, u.oneCell' = true)
    (h63 : n + m ≤ maxLen) (hbytes : (n + m) * i.bytes ≤ 140737488355328) :
    ∃ v' w', (Builtin.append_ #[t, t] ty #[v, .slice (some a) m c]).run P w = .ok v' w' ∧ w'.ownsRow 0 e i.size v' (n + m) (xs ++ news) ∧ Go.KM.Sl w w' ∧
      ((v'.ownBlock = v.ownBlock ∧ w'.heap.size = w.heap.size ∧ ∀ k, some k ≠ v.ownBlock → w'.heap[k]? = w.heap[k]?) ∨
       (v'.ownBlock = some w.heap.size ∧ w'.heap.size = w.heap.size + 1 ∧ ∀ k, k ≠ w.heap.size → w'.heap[k]? = w.heap[k]?)) := by
  have hsmall : n + m ≤ 9223372036854775807 := by simp only [maxLen] at h63; omega
  have hlen : (xs ++ news).length = (n + m) * i.size := by rw [List.length_append, hown.1, hl, Nat.add_mul]
  have grown : ∀ (old : Nat), old < n + m →
      (w.drew.alloc (.cells (xs.toArray ++ news.toArray ++ Builtin.zeroCells z.cells (grownCap w (n + m) old e - (n + m))) e)).ownsRow 0 e i.size
        (.slice (some ⟨w.heap.size, 0, none⟩) (n + m) (grownCap w (n + m) old e)) (n + m) (xs ++ news) := by
    intro old ho
    have hge := grownCap_ge w (n + m) old e
    have hcm : grownCap w (n + m) old e ≤ maxLen := grownCap_le_maxLen w (n + m) old e h63
    refine ⟨hlen, .inr ⟨w.heap.size, _, _, rfl, Nat.zero_le _, heap_alloc_new w.drew _, hge, hcm, ?_, ?_⟩⟩
    · simp only [Array.size_append, List.size_toArray, size_zeroCells, hzs, hown.1, hl, ← Nat.add_mul]
      congr 1
      omega
    · simp only [Array.toList_append, List.append_assoc]
      rw [← List.append_assoc, ← hlen]
      exact List.take_left
  have other : ∀ (o : Obj), (w.drew.alloc o).heap.size = w.heap.size + 1 ∧ ∀ k, k ≠ w.heap.size → (w.drew.alloc o).heap[k]? = w.heap[k]? := fun o =>
    ⟨by show (w.heap.push o).size = _; simp, fun k hk => by show (w.heap.push o)[k]? = _; rw [Array.getElem?_push, if_neg hk]⟩
  rcases hown.2 with ⟨rfl, rfl⟩ | ⟨g, cap, cur, rfl, hbg, hg, hnc, hcm, hcs, htake⟩
  · have hx : xs = [] := List.eq_nil_of_length_eq_zero (by simpa using hown.1)
    subst hx
    by_cases hm : m = 0
    · subst hm
      have hn : news = [] := List.eq_nil_of_length_eq_zero (by simpa using hl)
      subst hn
      refine ⟨.slice none 0 0, w, ?_, World.ownsRow_nil w 0 e i.size, ⟨rfl, rfl, rfl⟩, .inl ⟨rfl, rfl, fun _ _ => rfl⟩⟩
      simp [Builtin.append_, run_underlying ht, sizeOf, typeInfo, hi, Builtin.lenOf, Builtin.firstCells, loadCells, loadCellsFrom]
    · have hr := run_append_nil (P := P) w t ty e i z ht hi hz a m c news hl hnews (by omega) (by omega) (by have hb := hbytes; simp only [Nat.zero_add] at hb; omega)
      have hgr := grown 0 (by omega)
      simp only [Nat.zero_add, List.nil_append, Array.empty_append] at hgr ⊢
      exact ⟨_, _, hr, hgr, ⟨rfl, rfl, rfl⟩, .inr ⟨rfl, (other _).1, (other _).2⟩⟩
  · by_cases hroom : n + m ≤ cap
    · have hfit : n * i.size + news.length ≤ cur.size := by rw [hl, hcs, ← Nat.add_mul]; exact Nat.mul_le_mul_right _ hroom
      have hr := run_append_room (P := P) w t ty e i ht hi g n cap cur hg a m c news hl hnews h1 hroom hfit
      refine ⟨_, _, hr, ⟨hlen, .inr ⟨g, cap, _, rfl, hbg, setRow_heap w g cur _ e _ hg, hroom, hcm, ?_, ?_⟩⟩, ⟨rfl, rfl, rfl⟩, .inl ⟨rfl, by simp [World.setRow], fun k hk => setRow_other w g k _ (fun e => hk (by simp [Value.ownBlock, e]))⟩⟩
      · simp only [List.size_toArray, List.length_append, List.length_take, List.length_drop, Array.length_toList]
        omega
      · rw [htake, ← hlen]
        exact List.take_left
    · have holds : ∀ j u, xs[j]? = some u → w.cell? ((⟨g, 0, none⟩ : Addr).add j) = some u := hown.cells (g := g) rfl
      have hr := run_append_grow (P := P) w t ty e i z ht hi hz ⟨g, 0, none⟩ n cap xs hown.1 holds a m c news hl hnews (by omega) (by omega) (growslice_fits (by omega) hbytes)
      exact ⟨_, _, hr, grown cap (by omega), ⟨rfl, rfl, rfl⟩, .inr ⟨rfl, (other _).1, (other _).2⟩⟩
theorem append_run_str (w : World) (t tx ty e : TypeId) (i : TypeInfo) (z : Value) (ht : P.underlying t = some (.slice e)) (hu : P.underlying tx = some .string) (hi : P.info? e = some i) (hz : i.zero = some z)
    (hzs : z.cells.size = i.size) (hs1 : i.size = 1) (v : Value) (n : Nat) (xs : List Value) (hown : w.ownsRow 0 e i.size v n xs) (s : ByteArray) (h63 : n + s.size ≤ maxLen) (hbytes : (n + s.size) * i.bytes ≤ 140737488355328) :
    ∃ v' w', (Builtin.append_ #[t, tx] ty #[v, .string s]).run P w = .ok v' w' ∧ w'.ownsRow 0 e i.size v' (n + s.size) (xs ++ Lib.strCells s) ∧ Go.KM.Sl w w' ∧
      ((v'.ownBlock = v.ownBlock ∧ w'.heap.size = w.heap.size ∧ ∀ k, some k ≠ v.ownBlock → w'.heap[k]? = w.heap[k]?) ∨
       (v'.ownBlock = some w.heap.size ∧ w'.heap.size = w.heap.size + 1 ∧ ∀ k, k ≠ w.heap.size → w'.heap[k]? = w.heap[k]?)) := by
  have hsmall : n + s.size ≤ 9223372036854775807 := by simp only [maxLen] at h63; omega
  have hsl := Lib.strCells_length s
  have hlen : (xs ++ Lib.strCells s).length = (n + s.size) * i.size := by rw [List.length_append, hown.1, hsl, Nat.add_mul, hs1, Nat.mul_one, Nat.mul_one]
  have grown : ∀ (old : Nat), old < n + s.size →
      (w.drew.alloc (.cells (xs.toArray ++ (Lib.strCells s).toArray ++ Builtin.zeroCells z.cells (grownCap w (n + s.size) old e - (n + s.size))) e)).ownsRow 0 e i.size
        (.slice (some ⟨w.heap.size, 0, none⟩) (n + s.size) (grownCap w (n + s.size) old e)) (n + s.size) (xs ++ Lib.strCells s) := by
    intro old ho
    have hge := grownCap_ge w (n + s.size) old e
    have hcm : grownCap w (n + s.size) old e ≤ maxLen := grownCap_le_maxLen w (n + s.size) old e h63
    refine ⟨hlen, .inr ⟨w.heap.size, _, _, rfl, Nat.zero_le _, heap_alloc_new w.drew _, hge, hcm, ?_, ?_⟩⟩
    · simp only [Array.size_append, List.size_toArray, size_zeroCells, hzs, hown.1, hsl, hs1]
      omega
    · simp only [Array.toList_append, List.append_assoc]
      rw [← List.append_assoc, ← hlen]
      exact List.take_left
  have other : ∀ (o : Obj), (w.drew.alloc o).heap.size = w.heap.size + 1 ∧ ∀ k, k ≠ w.heap.size → (w.drew.alloc o).heap[k]? = w.heap[k]? := fun o =>
    ⟨by show (w.heap.push o).size = _; simp, fun k hk => by show (w.heap.push o)[k]? = _; rw [Array.getElem?_push, if_neg hk]⟩
  rcases hown.2 with ⟨rfl, rfl⟩ | ⟨g, cap, cur, rfl, hbg, hg, hnc, hcm, hcs, htake⟩
  · have hx : xs = [] := List.eq_nil_of_length_eq_zero (by simpa using hown.1)
    subst hx
    by_cases hm : s.size = 0
    · have hn : Lib.strCells s = [] := List.eq_nil_of_length_eq_zero (by omega)
      rw [hm, hn]
      refine ⟨.slice none 0 0, w, ?_, World.ownsRow_nil w 0 e i.size, ⟨rfl, rfl, rfl⟩, .inl ⟨rfl, rfl, fun _ _ => rfl⟩⟩
      have hs : s = ByteArray.empty := by
        apply ByteArray.ext
        apply Array.eq_empty_of_size_eq_zero
        exact hm
      subst hs
      simp [Builtin.append_, run_underlying ht, run_underlying hu, sizeOf, typeInfo, hi, Builtin.lenOf, Builtin.firstCells]
    · have hr := run_append_nil_string (P := P) w t tx ty e i z ht hu hi hz s (by omega) (by omega) (by have hb := hbytes; simp only [Nat.zero_add] at hb; omega)
      have hgr := grown 0 (by omega)
      have hcells : (s.data.map fun b => Value.int .u8 (b.toNat : Int)) = (Lib.strCells s).toArray := by apply Array.ext'; simp [Lib.strCells]
      rw [hcells] at hr
      simp only [Nat.zero_add, List.nil_append, Array.empty_append] at hgr ⊢
      exact ⟨_, _, hr, hgr, ⟨rfl, rfl, rfl⟩, .inr ⟨rfl, (other _).1, (other _).2⟩⟩
  · by_cases hroom : n + s.size ≤ cap
    · have hfit : n + s.size ≤ cur.size := by rw [hcs, hs1]; omega
      have hr := Lib.run_append_room_string (P := P) w t tx ty e i ht hu hi hs1 g n cap cur hg s hroom hfit
      have htake' : cur.toList.take n = xs := by rw [← htake, hs1, Nat.mul_one]
      refine ⟨_, _, hr, ⟨hlen, .inr ⟨g, cap, _, rfl, hbg, setRow_heap w g cur _ e _ hg, hroom, hcm, ?_, ?_⟩⟩, ⟨rfl, rfl, rfl⟩, .inl ⟨rfl, by simp [World.setRow], fun k hk => setRow_other w g k _ (fun e => hk (by simp [Value.ownBlock, e]))⟩⟩
      · simp only [List.size_toArray, List.length_append, List.length_take, List.length_drop, Array.length_toList, hsl]
        omega
      · rw [htake', ← hlen]
        exact List.take_left
    · have holds : ∀ j u, xs[j]? = some u → w.cell? ((⟨g, 0, none⟩ : Addr).add j) = some u := hown.cells (g := g) rfl
      have hr := Lib.run_append_grow_string (P := P) w t tx ty e i z ht hu hi hz ⟨g, 0, none⟩ n cap xs hown.1 holds s (by omega) (by omega) (growslice_fits (by omega) hbytes)
      exact ⟨_, _, hr, grown cap (by omega), ⟨rfl, rfl, rfl⟩, .inr ⟨rfl, (other _).1, (other _).2⟩⟩
theorem append_none (w : World) (t ty e : TypeId) (i : TypeInfo) (ht : P.underlying t = some (.slice e)) (hi : P.info? e = some i) (v : Value) (n : Nat) (xs : List Value) (hown : w.ownsRow 0 e i.size v n xs) :
    (Builtin.append_ #[t, t] ty #[v, .slice none 0 0]).run P w = .ok v w := by
  rcases hown.2 with ⟨rfl, rfl⟩ | ⟨g, cap, cur, rfl, hbg, hg, hnc, hcm, hcs, htake⟩
  · simp [Builtin.append_, run_underlying ht, sizeOf, typeInfo, hi, Builtin.lenOf, Builtin.firstCells]
  · simp [Builtin.append_, run_underlying ht, sizeOf, typeInfo, hi, Builtin.lenOf, Builtin.firstCells, hnc, storeCells]
end
section
variable [Enc] {d nt : Nat} {e : Option Nat} {S : St} {g g' : G} {a : Act} {w w' : World} {P : Program}
theorem castL_eq {T U : Nat} {xs : List (Dn U)} {ys : List (Dn T)} (h : castL T xs = some ys) : ∃ hh : U = T, ys = hh ▸ xs := by
  unfold castL at h
  split at h
  · rename_i hh; simp only [Option.some.injEq] at h; exact ⟨hh, h.symm⟩
  · simp at h
theorem seen_rep (h : Rel d nt e S g a w) {T : Nat} {x : Operand} {ys : List (Dn T)} (ho : S.seen T x = some ys) :
    (ys = [] ∧ a.eval x = .slice none 0 0) ∨ ∃ A off cap C E fr, a.eval x = .slice (some A) ys.length cap ∧ (ys ≠ [] → A = ⟨A.block, off, none⟩ ∧ w.heap[A.block]? = some (.cells C E fr)) ∧ ∀ i y, ys[i]? = some y → CellsAt g C (off + i * sz T) (cells T y) := by
  unfold St.seen at ho
  split at ho
  · rename_i U xs src hx
    obtain ⟨hh, hy⟩ := castL_eq ho
    subst hh
    simp only at hy
    subst hy
    obtain ⟨u, rfl, hu⟩ := opr_tmp hx
    obtain ⟨_, h4, _⟩ := h.rt u _ hu
    rcases h4 with ⟨h5, h6⟩ | ⟨b, off, cap, C, E, h5, h6, h7, h8, h9⟩
    · exact .inl ⟨h5, h6⟩
    · exact .inr ⟨⟨b, off, none⟩, off, cap, C, E, _, h5, fun _ => ⟨rfl, h7⟩, h9⟩
  · simp at ho
  · split at ho
    · rename_i U xs hx
      obtain ⟨hh, hy⟩ := castL_eq ho
      subst hh
      simp only at hy
      subst hy
      rcases repF_fl (eval_fl h hx) with ⟨h4, h5⟩ | ⟨A, off, cap, C, h4, h5, h6, h7⟩
      · exact .inl ⟨h4, h5⟩
      · exact .inr ⟨A, off, cap, C, _, _, h4, fun hn => ⟨(h5 hn).1, (h.wf.fz _ _ (h5 hn).2).2⟩, h7⟩
    · rename_i U xs hx
      obtain ⟨hh, hy⟩ := castL_eq ho
      subst hh
      simp only at hy
      subst hy
      have h1 := opv_rep h hx
      generalize hk : (match (generalizing := false) x with | .tmp t => Key.tm d t | _ => fun _ => Key.obj) = κ at h1
      have h2 : RepO g w (κ 0) _ ys (a.eval x) := by
        cases x with
        | tmp t => simp only at hk; subst hk; exact h1
        | const v => exact absurd hx opv_const_ol
        | global n => exact absurd hx opv_global_ol
        | func f => simp [St.opv] at hx
      have h2' := h2
      obtain ⟨vs, h3, h4, h5⟩ := h2
      rcases h3.2 with ⟨h6, h7⟩ | ⟨b, cap, cur, h6, _⟩
      · exact .inl ⟨List.eq_nil_of_length_eq_zero h7, h6⟩
      · rw [h6] at h2'
        obtain ⟨C, h8, _, _, _, _, h9⟩ := repO_row h2'
        exact .inr ⟨⟨b, 0, none⟩, 0, cap, C, _, _, h6, fun _ => ⟨rfl, h8⟩, fun i y hi => by rw [Nat.zero_add]; exact h9 i y hi⟩
    · rename_i hx
      simp only [Option.some.injEq] at ho
      subst ho
      exact .inl ⟨rfl, eval_nl h hx⟩
    · simp at ho
theorem list_vals {T : Nat} (hE : EncOk) (hz : 0 < sz T) {ys : List (Dn T)} {C : Array Value} {off : Nat} (h : ∀ i y, ys[i]? = some y → CellsAt g C (off + i * sz T) (cells T y)) :
    ∃ news : List Value, news.length = ys.length * sz T ∧ (∀ j u, news[j]? = some u → C[off + j]? = some u) ∧ (∀ u ∈ news, u.oneCell' = true) ∧ ∀ i y, ys[i]? = some y → CellsAt g news.toArray (i * sz T) (cells T y) := by
  have key : ∀ k, k < ys.length * sz T → ∃ u, C[off + k]? = some u ∧ u.oneCell' = true := by
    intro k hk
    have hi : k / sz T < ys.length := Nat.div_lt_of_lt_mul (by rw [Nat.mul_comm]; exact hk)
    have hy : ys[k / sz T]? = some ys[k / sz T] := List.getElem?_eq_getElem hi
    have hj : k % sz T < (cells T ys[k / sz T]).length := by rw [hE.len]; exact Nat.mod_lt _ hz
    obtain ⟨u, h1, h2⟩ := h _ _ hy (k % sz T) _ (List.getElem?_eq_getElem hj)
    refine ⟨u, ?_, repF_one h2⟩
    have : off + k / sz T * sz T + k % sz T = off + k := by
      have := Nat.div_add_mod k (sz T)
      rw [Nat.mul_comm] at this; omega
    rw [← this]; exact h1
  refine ⟨(List.range (ys.length * sz T)).map fun k => (C[off + k]?).getD undef, by simp, fun j u hj => ?_, fun u hu => ?_, fun i y hi j c hj => ?_⟩
  · simp only [List.getElem?_map, Option.map_eq_some_iff] at hj
    obtain ⟨k, hk, rfl⟩ := hj
    obtain ⟨h2, h3⟩ := List.getElem?_eq_some_iff.1 hk
    simp only [List.getElem_range] at h3
    subst h3
    obtain ⟨u, h4, _⟩ := key j (by simpa using h2)
    simp [h4]
  · simp only [List.mem_map, List.mem_range] at hu
    obtain ⟨k, hk, rfl⟩ := hu
    obtain ⟨u, h4, h5⟩ := key k hk
    simp [h4, h5]
  · obtain ⟨u, h1, h2⟩ := h i y hi j c hj
    refine ⟨u, ?_, h2⟩
    have hj' : j < sz T := by have := (List.getElem?_eq_some_iff.1 hj).1; rw [hE.len] at this; exact this
    have hi' := (List.getElem?_eq_some_iff.1 hi).1
    have hlt : i * sz T + j < ys.length * sz T := by
      have := Nat.mul_le_mul_right (sz T) (show i + 1 ≤ ys.length by omega)
      rw [Nat.add_mul, Nat.one_mul] at this; omega
    simp only [List.getElem?_toArray, List.getElem?_map]
    rw [List.getElem?_range hlt]
    rw [Nat.add_assoc] at h1
    simp [h1]
theorem execApp (o : Oper) {s x : Operand} {T : Nat} {args : Array Operand} {tys : Array TypeId} (hop : o.op = .call { callee := .builtin .append, args := args, argTypes := tys }) (ha : args.toList = [s, x]) (ht : tys.toList = [T, T]) {v : Value}
    (hr : (Builtin.append_ #[T, T] o.type #[a.eval s, a.eval x]).run P w = .ok v w') : (execOp a.eval o).run P w = .ok (.value v) w' := by
  have h1 : args = #[s, x] := by rw [← Array.toArray_toList (xs := args), ha]
  have h2 : tys = #[T, T] := by rw [← Array.toArray_toList (xs := tys), ht]
  subst h1 h2
  simp [execOp, hop, resolve, invoke, builtin, hr]
theorem row_of {w : World} {base el bs n : Nat} {v : Value} {xs : List Value} {b : Nat} (h : w.ownsRow base el bs v n xs) (hv : v.ownBlock = some b) : ∃ D, w.heap[b]? = some (.cells D el (0, 0)) := by
  rcases h.2 with ⟨h4, _⟩ | ⟨b', cap, cur, h4, _, h5, _⟩
  · subst h4; simp [Value.ownBlock] at hv
  · subst h4; simp only [Value.ownBlock, Option.some.injEq] at hv; subst hv; exact ⟨cur, h5⟩
theorem append_fin {el t m : Nat} {xs ys : List (Dn el)} {κ : Key} {V : Value} {vs news : List Value} {r : Result Next} {bs : Nat} (ht : t < nt) (h : Rel d nt e S g a w) (hrt : S.rt = []) (hE : EncOk) (s3 : 0 < sz el) (s5 : bs = sz el)
    (o1 : w.ownsRow 0 el bs V xs.length vs) (o2 : ∀ b, V.ownBlock = some b → g.own b = some κ) (o3 : ∀ k y, xs[k]? = some y → CellsAt g vs.toArray (k * sz el) (cells el y)) (hm : Mine d m g w κ) (hf : Free d S g κ)
    (n4 : ∀ k y, ys[k]? = some y → CellsAt g news.toArray (k * sz el) (cells el y)) {v' : Value} {w' : World} (hex : r = .ok (.value v') w') (r2 : w'.ownsRow 0 el bs v' (xs.length + ys.length) (vs ++ news)) (rsl : Sl w w')
    (r3 : (v'.ownBlock = V.ownBlock ∧ w'.heap.size = w.heap.size ∧ ∀ k, some k ≠ V.ownBlock → w'.heap[k]? = w.heap[k]?) ∨ (v'.ownBlock = some w.heap.size ∧ w'.heap.size = w.heap.size + 1 ∧ ∀ k, k ≠ w.heap.size → w'.heap[k]? = w.heap[k]?)) :
    Ran d nt e m (S.setT t (.ol el (xs ++ ys))) g a w t r := by
  subst s5
  -- the elements of the longer list
  have hvlen := o1.1
  have hel : ∀ {G' : G}, Grow g G' → ∀ k y, (xs ++ ys)[k]? = some y → CellsAt G' (vs ++ news).toArray (k * sz el) (cells el y) := by
    intro G' hG k y hk j c hj
    have hj' : j < sz el := by have := (List.getElem?_eq_some_iff.1 hj).1; rw [hE.len] at this; exact this
    simp only [List.getElem?_toArray]
    by_cases hkx : k < xs.length
    · rw [List.getElem?_append_left hkx] at hk
      obtain ⟨u, h4, h5⟩ := o3 k y hk j c hj
      refine ⟨u, ?_, h5.mono hG⟩
      have := Nat.mul_le_mul_right (sz el) (show k + 1 ≤ xs.length by omega)
      rw [Nat.add_mul, Nat.one_mul] at this
      rw [List.getElem?_append_left (by omega)]
      simpa using h4
    · rw [List.getElem?_append_right (by omega)] at hk
      obtain ⟨u, h4, h5⟩ := n4 _ y hk j c hj
      refine ⟨u, ?_, h5.mono hG⟩
      have hkk : k * sz el = xs.length * sz el + (k - xs.length) * sz el := by rw [← Nat.add_mul]; congr 1; omega
      rw [List.getElem?_append_right (by omega)]
      have : k * sz el + j - vs.length = (k - xs.length) * sz el + j := by omega
      rw [this]
      simpa using h4
  have hll : (xs ++ ys).length = xs.length + ys.length := List.length_append
  rcases r3 with ⟨q1, q2, q3⟩ | ⟨q1, q2, q3⟩
  · -- in place
    cases hv : V.ownBlock with
    | none =>
      rw [hv] at q1 q3
      have hsame : ∀ k : Nat, w'.heap[k]? = w.heap[k]? := fun k => q3 k (by simp)
      have hwf : WF g w' := ⟨h.wf.gl, fun b κ hb => by rw [q2]; exact h.wf.own b κ hb, fun b C hb => by
          obtain ⟨h4, h5⟩ := h.wf.fz b C hb
          exact ⟨h4, (hsame b).trans h5⟩, fun b b' j hb => by rw [q2]; exact h.wf.ob b b' j hb, fun i hi => by rw [q2]; exact h.wf.ol i hi, h.wf.inj, h.wf.oe_row (RowTy.of_same fun k _ => hsame k)⟩
      have h1 : Rel d nt e S g a w' := h.keep (X := fun _ _ => False) ⟨.refl g, rfl, fun b κ hb _ => ⟨hb, hsame b⟩⟩ (fun _ => rfl) (fun _ _ hx => hx.elim) (.inl hrt) hwf
      exact ⟨g, v', w', hex, h1.setT ht (show RepO _ _ _ el _ _ from ⟨_, by rw [hll]; exact r2, fun b hb => by rw [q1] at hb; simp at hb, hel (.refl g)⟩), ⟨.refl g, fun b κ hb _ => ⟨hb, hsame b⟩, by rw [q2]; exact Nat.le_refl _, fun i h1 h2 => by omega, rsl⟩⟩
    | some bb =>
      have hbb := o2 bb hv
      rw [hv] at q1 q3
      have hother : ∀ k, k ≠ bb → w'.heap[k]? = w.heap[k]? := fun k hk => q3 k (by simpa using hk)
      have hwf : WF g w' := ⟨h.wf.gl, fun b κ hb => by rw [q2]; exact h.wf.own b κ hb, fun b C hb => by
          obtain ⟨h4, h5⟩ := h.wf.fz b C hb
          exact ⟨h4, (hother b fun hh => by subst hh; rw [hbb] at h4; simp at h4).trans h5⟩, fun b b' j hb => by rw [q2]; exact h.wf.ob b b' j hb, fun i hi => by rw [q2]; exact h.wf.ol i hi, h.wf.inj, h.wf.oe_row fun k C E fr hk => by
          by_cases hkb : k = bb
          · subst hkb
            obtain ⟨D, hD⟩ := row_of o1 hv
            obtain ⟨D', hD'⟩ := row_of r2 q1
            rw [hD] at hk
            cases hk
            exact ⟨_, _, hD'⟩
          · exact ⟨_, _, (hother k hkb).trans hk⟩⟩
      have hk : Keep (fun k κ' => k = bb ∧ κ' = κ) g w g w' := ⟨.refl g, rfl, fun k κ' hk hx => ⟨hk, hother k fun hh => by subst hh; rw [hbb] at hk; exact hx ⟨rfl, (Option.some.inj hk).symm⟩⟩⟩
      have h1 : Rel d nt e S g a w' := h.keep hk (fun _ => rfl) (fun k κ' hx => by obtain ⟨_, rfl⟩ := hx; exact ⟨hm.cell, fun _ => hf⟩) (.inl hrt) hwf
      have hm' : Mine d m g w' κ := by cases κ <;> first | exact hm | exact ⟨hm.1, by rw [q2]; exact hm.2⟩
      obtain ⟨g', h2, h3, h4, _⟩ := h1.move (m := m) (κ' := .tm d t 0) (T := el) (xs := xs ++ ys) ⟨_, by rw [hll]; exact r2, fun b hb => by rw [q1] at hb; simp only [Option.some.injEq] at hb; subst hb; exact hbb, hel (.refl g)⟩ hm' (Nat.le_refl d) hf
      refine ⟨g', v', w', hex, h2.setT ht h3, ?_⟩
      have e1 : Ext d m g w g w' := ⟨.refl g, fun k κ' hk' hout => ⟨hk', hother k fun hh => by subst hh; rw [hbb] at hk'; simp only [Option.some.injEq] at hk'; subst hk'; exact hm.out k hout⟩, by rw [q2]; exact Nat.le_refl _, fun i h1 h2 => by omega, rsl⟩
      exact e1.trans' h4 rfl rfl
  · -- a new row
    have hkA : Keep (fun _ _ => False) g w (g.new w.heap.size (.tm d t 0)) w' := by
      refine ⟨⟨fun _ _ h => h, Nat.le_refl _, fun _ _ => rfl, fun _ _ _ => rfl, rfl, fun _ _ => rfl⟩, rfl, fun b k hb _ => ?_⟩
      have hlt := h.wf.own b k hb
      have hne : b ≠ w.heap.size := by omega
      exact ⟨by simp only [G.new, if_neg hne]; exact hb, q3 b hne⟩
    have hwf : WF (g.new w.heap.size (.tm d t 0)) w' := by
      refine ⟨gl_mono hkA.gr h.wf.gl, fun b k hb => ?_, fun b C hf => ?_, fun b b' j hb => ?_, fun i hi => ?_, h.wf.inj, fun i hi => by
        obtain ⟨k0, k1⟩ := h.wf.oe_row (RowTy.of_same fun k hk => q3 k (by omega)) i hi
        have hne : g.oa i ≠ w.heap.size := by have := h.wf.ol i hi; omega
        exact ⟨by simp only [G.new, if_neg hne]; exact k0, k1⟩⟩
      · rw [q2]
        simp only [G.new] at hb
        split at hb
        · rename_i hh; omega
        · have := h.wf.own b k hb; omega
      · obtain ⟨h1, h2⟩ := h.wf.fz b C hf
        have hlt := (Array.getElem?_eq_some_iff.1 h2).1
        have hne : b ≠ w.heap.size := by omega
        exact ⟨by simp only [G.new, if_neg hne]; exact h1, by rw [q3 b hne]; exact h2⟩
      · rw [q2]
        simp only [G.new] at hb
        split at hb
        · simp at hb
        · have := h.wf.ob b b' j hb; omega
      · rw [q2]; have := h.wf.ol i hi; simp only [G.new]; omega
    have h1 : Rel d nt e S (g.new w.heap.size (.tm d t 0)) a w' := h.keep hkA (fun _ => rfl) (fun _ _ hx => hx.elim) (.inl hrt) hwf
    refine ⟨_, v', w', hex, h1.setT ht (show RepO _ _ _ el _ _ from ⟨_, by rw [hll]; exact r2, fun b hb => by rw [q1] at hb; simp only [Option.some.injEq] at hb; subst hb; simp [G.new], hel hkA.gr⟩), ⟨hkA.gr, fun b k hb _ => hkA.own b k hb id, by omega, fun i h1 h2 => by simp only [G.new] at h2; omega, rsl⟩⟩
theorem append_core {F : Fx} (hT : TabOk P F.T) {t T el m : Nat} {s x : Operand} {xs ys : List (Dn el)} {κ : Key} {o : Oper} {args : Array Operand} {tys : Array TypeId} (ht : t < nt) (h : Rel d nt e S g a w) (hrt : S.rt = []) (hK : F.T.K T = .slice el)
    (hs : RepO g w κ el xs (a.eval s)) (hm : Mine d m g w κ) (hf : Free d S g κ) (hx : (ys = [] ∧ a.eval x = .slice none 0 0) ∨ ∃ A off cap C E fr, a.eval x = .slice (some A) ys.length cap ∧ (ys ≠ [] → A = ⟨A.block, off, none⟩ ∧ w.heap[A.block]? = some (.cells C E fr)) ∧ ∀ i y, ys[i]? = some y → CellsAt g C (off + i * sz el) (cells el y))
    (hroom : room (xs.length + ys.length) (F.T.by_ el) = true) (hop : o.op = .call { callee := .builtin .append, args := args, argTypes := tys }) (ha : args.toList = [s, x]) (hty : tys.toList = [T, T]) :
    Ran d nt e m (S.setT t (.ol el (xs ++ ys))) g a w t ((execOp a.eval o).run P w) := by
  obtain ⟨s1, s2, s3, i, z, s4, s5, s6, s7, s8, s9⟩ := hT.slice _ _ hK
  obtain ⟨vs, o1, o2, o3⟩ := hs
  have o1' : w.ownsRow 0 el i.size (a.eval s) xs.length vs := by rw [s5]; exact o1
  rcases hx with ⟨rfl, hx⟩ | ⟨A, off, cap, C, E, fr, hx, hb, hc⟩
  · have hrun := append_none (P := P) w T o.type el i s1 s4 (a.eval s) xs.length vs o1'
    obtain ⟨g', h1, h2, h3, _⟩ := h.move (m := m) (κ' := .tm d t 0) (T := el) (xs := xs) ⟨vs, o1, o2, o3⟩ hm (by
      exact Nat.le_refl d) hf
    refine ⟨g', _, w, execApp o hop ha hty (by rw [hx]; exact hrun), h1.setT ht ?_, h3⟩
    rw [List.append_nil]; exact h2
  · obtain ⟨news, n1, n2, n3, n4⟩ := list_vals hT.enc s3 hc
    simp only [room, decide_eq_true_eq] at hroom
    have hlen : xs.length + ys.length ≤ 140737488355328 := by
      have := Nat.le_mul_of_pos_right (xs.length + ys.length) (show 0 < F.T.by_ el by omega)
      omega
    obtain ⟨v', w', r1, r2, rsl, r3⟩ := append_run (P := P) w T o.type el i z s1 s4 s8 (by rw [s5]; exact s9) (by omega) (a.eval s) xs.length vs o1' A ys.length cap news (by rw [s5]; exact n1) (fun j u hj => by
        have hn : ys ≠ [] := fun hh => by
          subst hh
          have := (List.getElem?_eq_some_iff.1 hj).1
          simp only [List.length_nil, Nat.zero_mul] at n1
          omega
        obtain ⟨hA, hh⟩ := hb hn
        rw [hA, cell_at hh]; exact n2 j u hj) n3
      (by unfold maxLen; omega) (by rw [s6]; exact hroom)
    have hex := execApp (a := a) (w := w) o hop ha hty (by rw [hx]; exact r1)
    exact append_fin ht h hrt hT.enc s3 s5 o1' o2 o3 hm hf n4 hex r2 rsl r3
theorem execAppS (o : Oper) {s x : Operand} {T U : Nat} {args : Array Operand} {tys : Array TypeId} (hop : o.op = .call { callee := .builtin .append, args := args, argTypes := tys }) (ha : args.toList = [s, x]) (ht : tys.toList = [T, U]) {v : Value}
    (hr : (Builtin.append_ #[T, U] o.type #[a.eval s, a.eval x]).run P w = .ok v w') : (execOp a.eval o).run P w = .ok (.value v) w' := by
  have h1 : args = #[s, x] := by rw [← Array.toArray_toList (xs := args), ha]
  have h2 : tys = #[T, U] := by rw [← Array.toArray_toList (xs := tys), ht]
  subst h1 h2
  simp [execOp, hop, resolve, invoke, builtin, hr]
theorem strL_len (T : Nat) (b : ByteArray) : (strL T b).length = b.size := by unfold strL; rw [List.length_map, Array.length_toList]; rfl
theorem appendS_ran {F : Fx} (hT : TabOk P F.T) {t m T U : Nat} {s x : Operand} {S' : St} {o : Oper} {args : Array Operand} {tys : Array TypeId} (ht : t < nt) (h : Rel d nt e S g a w) (ho : opAppendS F t T U s x S = some (true, S'))
    (hop : o.op = .call { callee := .builtin .append, args := args, argTypes := tys }) (ha : args.toList = [s, x]) (hty : tys.toList = [T, U]) : Ran d nt e m S' g a w t ((execOp a.eval o).run P w) := by
  unfold opAppendS at ho
  split at ho
  · rename_i el b hK hKU hx
    have hxs : a.eval x = .string b := eval_s h hx
    split at ho
    · rename_i f hKe hu
      obtain ⟨s1, s2, s3, i, z, s4, s5, s6, s7, s8, s9⟩ := hT.slice _ _ hK
      obtain ⟨u1, u2⟩ := hT.enc.u8 _ _ hu
      have hs1 : i.size = 1 := by rw [s5, u1]
      have key : ∀ {S0 : St} {g0 : G} {xs : List (Dn el)} {κ : Key} {sv : Operand}, Rel d nt e S0 g0 a w → S0.rt = [] → RepO g0 w κ el xs (a.eval sv) → Mine d m g0 w κ → Free d S0 g0 κ → args.toList = [sv, x] → room (xs.length + b.size) (F.T.by_ el) = true →
          Ran d nt e m (S0.setT t (.ol el (xs ++ strL el b))) g0 a w t ((execOp a.eval o).run P w) := by
        intro S0 g0 xs κ sv h0 hrt hs hm hf ha hroom
        obtain ⟨vs, o1, o2, o3⟩ := hs
        have o1' : w.ownsRow 0 el i.size (a.eval sv) xs.length vs := by rw [s5]; exact o1
        simp only [room, decide_eq_true_eq] at hroom
        have hlen : xs.length + b.size ≤ 140737488355328 := by
          have := Nat.le_mul_of_pos_right (xs.length + b.size) (show 0 < F.T.by_ el by omega)
          omega
        obtain ⟨v', w', r1, r2, rsl, r3⟩ := append_run_str (P := P) w T U o.type el i z s1 (hT.str _ hKU) s4 s8 (by rw [s5]; exact s9) hs1 (a.eval sv) xs.length vs o1' b (by unfold maxLen; omega) (by rw [s6]; exact hroom)
        have hex := execAppS (a := a) (w := w) o hop ha hty (by rw [hxs]; exact r1)
        refine append_fin (bs := i.size) ht h0 hrt hT.enc s3 s5 o1' o2 o3 hm hf (fun k y hk => ?_) hex (by rw [strL_len]; exact r2) rsl r3
        unfold strL at hk
        rw [List.getElem?_map] at hk
        obtain ⟨c, hc, rfl⟩ := Option.map_eq_some_iff.1 hk
        obtain ⟨y, hy⟩ := hT.enc.u8m _ _ (c.toNat : Int) hu
        rw [hy, Option.getD_some]
        refine (hT.enc.mkE _ _ _ hy).2 g0 _ _ fun j p hj => ?_
        cases j with
        | zero =>
          simp only [List.getElem?_cons_zero, Option.some.injEq] at hj
          subst hj
          refine ⟨.int .u8 (c.toNat : Int), ?_, .i _ _⟩
          unfold Lib.strCells
          rw [u1, Nat.mul_one, Nat.add_zero, List.getElem?_toArray, List.getElem?_map, hc]
          rfl
        | succ j => simp at hj
      split at ho
      · rename_i hs
        simp only [Option.some.injEq, Prod.mk.injEq] at ho
        obtain ⟨h1, rfl⟩ := ho
        have hs' : RepO g w (.ar d 0) el [] (a.eval s) := by rw [eval_nl h hs]; exact ⟨[], World.ownsRow_nil w 0 el (sz el), fun b hb => by simp [Value.ownBlock] at hb, fun i x hi => by simp at hi⟩
        have := key (S0 := S.noR) h.noR rfl hs' (Nat.le_refl d) ⟨fun _ _ _ hk => by simp at hk, fun _ _ _ _ hk => by simp at hk, fun _ _ _ _ hk => by simp at hk, fun _ _ hk => by simp at hk⟩ ha (by simpa using h1)
        simpa using this
      · rename_i V xs hs
        split at ho
        · rename_i xs' u hc
          obtain ⟨hh, hy⟩ := castL_eq hc
          subst hh
          simp only at hy
          subst hy
          simp only [Option.some.injEq, Prod.mk.injEq] at ho
          obtain ⟨h1, rfl⟩ := ho
          obtain ⟨hu', hrep⟩ := h.tm u _ hs
          exact key (S0 := (S.setT u .gone).noR) (sv := .tmp u) (h.gone hu').noR rfl hrep (mine_tm (t := u) (i := 0)) (by
            have := free_gone (d := d) (S := S) (g := g) (t := u) (i := 0)
            exact ⟨this.tm, this.lc, this.mm, this.vl⟩) ha h1
        · simp at ho
      · simp at ho
    · simp at ho
  · simp at ho
theorem append_ran {F : Fx} (hT : TabOk P F.T) {t m T : Nat} {s x : Operand} {S' : St} {o : Oper} {args : Array Operand} {tys : Array TypeId} (ht : t < nt) (h : Rel d nt e S g a w) (ho : opAppend F t T s x S = some (true, S'))
    (hop : o.op = .call { callee := .builtin .append, args := args, argTypes := tys }) (ha : args.toList = [s, x]) (hty : tys.toList = [T, T]) : Ran d nt e m S' g a w t ((execOp a.eval o).run P w) := by
  unfold opAppend at ho
  split at ho
  · rename_i el hK
    split at ho
    · rename_i ys hx
      have hseen := seen_rep h hx
      split at ho
      · rename_i hs
        simp only [Option.some.injEq, Prod.mk.injEq] at ho
        obtain ⟨h1, rfl⟩ := ho
        have hs' : RepO g w (.ar d 0) el [] (a.eval s) := by rw [eval_nl h hs]; exact ⟨[], World.ownsRow_nil w 0 el (sz el), fun b hb => by simp [Value.ownBlock] at hb, fun i x hi => by simp at hi⟩
        have := append_core (m := m) hT ht h.noR rfl hK hs' (Nat.le_refl d) ⟨fun _ _ _ hk => by simp at hk, fun _ _ _ _ hk => by simp at hk, fun _ _ _ _ hk => by simp at hk, fun _ _ hk => by simp at hk⟩ hseen (by simpa using h1) hop ha hty
        simpa using this
      · rename_i U xs hs
        split at ho
        · rename_i xs' u hc
          obtain ⟨hh, hy⟩ := castL_eq hc
          subst hh
          simp only at hy
          subst hy
          simp only [Option.some.injEq, Prod.mk.injEq] at ho
          obtain ⟨h1, rfl⟩ := ho
          obtain ⟨hu, hrep⟩ := h.tm u _ hs
          have := append_core (m := m) (s := .tmp u) (xs := xs') hT ht (h.gone hu).noR rfl hK hrep (mine_tm (t := u) (i := 0)) (by
            have := free_gone (d := d) (S := S) (g := g) (t := u) (i := 0)
            exact ⟨this.tm, this.lc, this.mm, this.vl⟩) hseen h1 hop ha hty
          exact this
        · simp at ho
      · simp at ho
    · simp at ho
  · simp at ho
end
end Go.KM
