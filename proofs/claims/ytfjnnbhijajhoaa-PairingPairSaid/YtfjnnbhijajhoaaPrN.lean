/- Chapter 56: Pair of the program. -/
import Derived.Test.YtfjnnbhijajhoaaPrM
namespace Go.Proofs.Ytfjnnbhijajhoaa
open Go Go.RowKit Go.Sort Go.Shelf Cg
theorem resElem : ElemIs Try.prog 22 31 (rsV 0 0 0 0 0) 5 40 := elemIs_mk Try.underlying22 (by kernel_rfl) rfl (by decide)
theorem encR_one (x : Rs) : ∀ u ∈ encR x, u.oneCell' = true := fun u hu => by
  unfold encR at hu
  simp only [List.mem_cons, List.not_mem_nil, or_false] at hu
  rcases hu with rfl | rfl | rfl | rfl | rfl <;> rfl
/-- 'out = append(out, ys...)' at structs, inside a region that draws its order. -/
theorem step_append_rowK {α : Type} {P : Program} {ops : Array Oper} {o : Oper} {a : Act} {w : World} {K : Act → World → Prop} {Q : Exit → Act → World → Prop} {E : Prop} (hgd : o.guard = none) (s x : Operand) (t : TypeId)
    (ho : o.op = .call { callee := .builtin .append, args := #[s, x], argTypes := #[t, t] })
    (base : Nat) {e : TypeId} {z : Value} {k bytes : Nat} (hE : ElemIs P t e z k bytes)
    (v : Value) (n : Nat) (xs : List Value) (hs : a.eval s = v) (hown : w.ownsRow base e k v n xs)
    (enc : α → List Value) (hk : ∀ x, (enc x).length = k) (h1 : ∀ y, ∀ u ∈ enc y, u.oneCell' = true) (ys : List α) (ad : Addr) (m cap : Nat) (hx : a.eval x = .slice (some ad) m cap) (hr : Cg.RowK k enc w (.slice (some ad) m cap) ys)
    (hn : (n + ys.length) * bytes ≤ 140737488355328) (hn1 : n + ys.length < 140737488355328) (hbase : base ≤ w.heap.size)
    (h : ∀ v' w', w'.ownsRow base e k v' (n + ys.length) (xs ++ ys.flatMap enc) → w.grownBy w' v.ownBlock → Below base w w' → K (a.put o.dst v') w') :
    if Region.wanted o (yielded ops a.tmps) = true then Oper.wp P o a w K Q else E := by
  have hw : Region.wanted o (yielded ops a.tmps) = true := by simp [Region.wanted, hgd]
  rw [if_pos hw]
  obtain ⟨ht, hzs, hsz, i, hi, hz, hsize, hby⟩ := hE
  obtain ⟨ao, cap', hv, ⟨hc, hnil⟩, hr⟩ := hr
  simp only [Value.slice.injEq] at hv
  obtain ⟨rfl, rfl, rfl⟩ := hv
  have hcells : ∀ (j : Nat) u, (ys.flatMap enc)[j]? = some u → w.cell? (ad.add j) = some u := by
    intro j u hj
    rcases hr with rfl | ⟨b, oo, hao, _, hcell⟩
    · simp at hj
    · cases hao
      have hjl := (List.getElem?_eq_some_iff.1 hj).1
      rw [flat_len hk] at hjl
      have hq : j / k < ys.length := Nat.div_lt_of_lt_mul (by rw [Nat.mul_comm]; exact hjl)
      have hm : j % k < k := Nat.mod_lt _ hsz
      have ha : (⟨b, oo, none⟩ : Addr).add j = ⟨b, oo + j, none⟩ := by unfold Addr.add; split <;> simp_all
      have hj2 : j = j / k * k + j % k := by rw [Nat.mul_comm]; exact (Nat.div_add_mod j k).symm
      have hg := flat_get hk ys (j / k) _ (List.getElem?_eq_getElem hq) (j % k) hm
      rw [← hj2, hj] at hg
      have hadd : (⟨b, oo, none⟩ : Addr).add j = ⟨b, oo + j / k * k + j % k, none⟩ := by
        rw [ha, Nat.add_assoc, ← hj2]
      rw [hadd]
      exact hcell (j / k) _ (List.getElem?_eq_getElem hq) (j % k) u hg.symm
  refine wp_append_own w s x t ho base e i z k bytes ht hi hz hsize hby hzs hsz v n xs hs hown ad ys.length cap (ys.flatMap enc) hx (flat_len hk ys) hcells (fun u hu => by
    obtain ⟨y, _, hu⟩ := List.mem_flatMap.1 hu
    exact h1 y u hu) (by simp only [maxLen]; omega) hn hbase ?_
  intro v' w' hown' hgrow _
  exact h v' w' hown' hgrow ((Below.refl base w).grown hgrow hbase (fun k hk => (hown.lt k hk).1))
theorem res_row (w : World) (x : Rs) (t : TypeId) : Cg.RowK 5 encR (w.alloc (.cells (encR x).toArray t)) (.slice (some ⟨w.heap.size, 0, none⟩) 1 1) [x] := by
  refine ⟨_, 1, rfl, ⟨Nat.le_refl _, fun h => by cases h⟩, .inr ⟨w.heap.size, 0, rfl, by show _ < (w.heap.push _).size; simp, fun j y hj i u hu => ?_⟩⟩
  rcases j with _ | j
  · have e : x = y := by simpa using hj
    subst e
    rw [Nat.zero_mul, Nat.add_zero, Nat.zero_add, cell_of_row _ _ _ _ _ _ (heap_alloc_new w _), List.getElem?_toArray]
    exact hu
  · simp at hj
/-- A row of structs that does not lie in block b stays when b alone changes. -/
theorem RowK.far {α : Type} {k : Nat} {enc : α → List Value} {w w' : World} {v : Value} {xs : List α} {b : Nat} (h : Cg.RowK k enc w v xs) (hv : ∀ g, v.ownBlock = some g → g ≠ b) (hg : w.grownBy w' (some b)) : Cg.RowK k enc w' v xs := by
  obtain ⟨ao, cap, rfl, hc, h⟩ := h
  refine ⟨ao, cap, rfl, hc, ?_⟩
  rcases h with h | ⟨g, o, rfl, hlt, hx⟩
  · exact .inl h
  · refine .inr ⟨g, o, rfl, Nat.lt_of_lt_of_le hlt hg.size, fun j x hj i u hu => (World.cell?_of_block (a := ⟨g, o + j * k + i, none⟩) (hg.block g hlt (fun e => hv g rfl (Option.some.inj e)))).trans (hx j x hj i u hu)⟩
theorem BlkK.part {t : TypeId} {w : World} {g : Nat} {pre xs post : List (St × Sl)} (h : BlkK 8 encT t w g (pre ++ xs ++ post)) (c : Nat) (hc : xs.length ≤ c) : Cg.RowK 8 encT w (.slice (some ⟨g, pre.length * 8, none⟩) xs.length c) xs :=
  ⟨_, c, rfl, ⟨hc, fun h => by cases h⟩, .inr ⟨g, pre.length * 8, rfl, h.lt, fun j x hj i u hu => by
    have hjl := (List.getElem?_eq_some_iff.1 hj).1
    have := h.cell (pre.length + j) x (by rw [List.append_assoc, List.getElem?_append_right (by omega), List.getElem?_append_left (by omega), Nat.add_sub_cancel_left]; exact hj) i u hu
    rwa [Nat.add_mul] at this⟩⟩
theorem delete_at (g m c i o8 : Nat) (pre xs post : List (St × Sl)) (w : World) (hb : BlkK 8 encT 35 w g (pre ++ xs ++ post)) (ho : o8 = pre.length * 8) (hm : xs.length = m) (hi : i < m) (hc : m ≤ c) (hcm : c ≤ 1000000) :
    Calls Try.prog 30 #[.slice (some ⟨g, o8, none⟩) m c, .int .i64 i, .int .i64 ((i : Int) + 1)] w fun e w' => e = .returned (.slice (some ⟨g, o8, none⟩) (m - 1) c) ∧ BlkK 8 encT 35 w' g (pre ++ xs.eraseIdx i ++ ((st0 0, (none, 0, 0)) :: post)) ∧ w.grownBy w' (some g) := by
  have h := delete_std g m c i pre xs post w hb hm hi hc hcm
  rw [← ho] at h
  rw [List.eraseIdx_eq_take_drop_succ]
  exact h
theorem erase_map {α β : Type} (f : α → β) : ∀ (xs : List α) (i : Nat), (xs.map f).eraseIdx i = (xs.eraseIdx i).map f
  | [], _ => rfl
  | _ :: _, 0 => rfl
  | x :: xs, i + 1 => by rw [List.map_cons, List.eraseIdx_cons_succ, List.eraseIdx_cons_succ, List.map_cons, erase_map f xs i]
/-- The two numbers that the region of a pair reads. -/
def PS (T g o : Nat) (a b : Int) (w : World) : Prop := w.cell? ⟨T, 0, none⟩ = some (.int .i64 a) ∧ w.cell? ⟨g, o, none⟩ = some (.int .i64 b)
theorem PS.keep {T g o : Nat} {a b : Int} {w w' : World} (h : PS T g o a b w) (h1 : w'.heap[T]? = w.heap[T]?) (h2 : w'.heap[g]? = w.heap[g]?) : PS T g o a b w' :=
  ⟨(World.cell?_of_block (a := ⟨T, 0, none⟩) h1).trans h.1, (World.cell?_of_block (a := ⟨g, o, none⟩) h2).trans h.2⟩
theorem cons_drop {α : Type} (xs : List α) (x : α) (h : xs[0]? = some x) : x :: xs.drop 1 = xs := by
  cases xs with
  | nil => simp at h
  | cons y ys =>
    have e : y = x := by simpa using h
    rw [e]
    rfl
theorem erase_head {α : Type} (xs : List α) (x : α) (h : xs[0]? = some x) (i : Nat) (hi : 0 < i) : xs.eraseIdx i = x :: (xs.eraseIdx i).drop 1 := by
  cases xs with
  | nil => simp at h
  | cons y ys =>
    have e : y = x := by simpa using h
    obtain ⟨k, rfl⟩ : ∃ k, i = k + 1 := ⟨i - 1, by omega⟩
    rw [e, List.eraseIdx_cons_succ]
    rfl
theorem own_far {w w' : World} {B e size n g : Nat} {v : Value} {xs : List Value} (h : w.ownsRow B e size v n xs) (hg : g < B) (hb : w.grownBy w' (some g)) : w'.ownsRow B e size v n xs := by
  refine ⟨h.1, ?_⟩
  rcases h.2 with hv | ⟨g', cap, cur, hv, h1, h2, rest⟩
  · exact .inl hv
  · exact .inr ⟨g', cap, cur, hv, h1, (hb.block g' (Array.getElem?_eq_some_iff.1 h2).1 (fun e => by cases e; omega)).trans h2, rest⟩
def lenV : Value → Nat
  | .slice _ n _ => n
  | _ => 0
/-- The loop of Pair: what is left of the standings, the pairs made. -/
structure Pv (w4 wr : World) (g : Nat) (left out : Value) (pre xs post : List (St × Sl)) (c : Nat) (ps : List (Int × Int)) : Prop where
  left_ : left = .slice (some ⟨g, pre.length * 8, none⟩) xs.length c
  cap : xs.length ≤ c
  capm : c ≤ 1000
  few : xs.length + ps.length ≤ 1000
  blk : BlkK 8 encT 35 wr g (pre ++ xs ++ post)
  lt : g < w4.heap.size
  own : wr.ownsRow w4.heap.size 31 5 out ps.length ((ps.map rsPair).flatMap encR)
  grow : w4.grownBy wr (some g)
theorem Pv.step {w4 wr wr' : World} {g : Nat} {left out : Value} {pre xs post : List (St × Sl)} {c : Nat} {ps : List (Int × Int)} (h : Pv w4 wr g left out pre xs post c ps) (hb : Below wr.heap.size wr wr') : Pv w4 wr' g left out pre xs post c ps :=
  ⟨h.left_, h.cap, h.capm, h.few, h.blk.same (hb.block g (Nat.lt_of_lt_of_le h.lt h.grow.size)), h.lt, own_block h.own hb, h.grow.trans ⟨hb.os, hb.tape, hb.output, hb.size, fun k hk _ => hb.block k hk⟩⟩
set_option maxRecDepth 100000 in
set_option maxHeartbeats 8000000 in
theorem pair_prog (n : Int) (N : Nat) (v : Value) (l : List Rs) (w : World) (h : Cg.RowK 5 encR w v l) (hl : l.length ≤ 1000) (hN : clampI n = N) (hn : n ≤ 256) :
    Calls Try.prog 16 #[.int .i64 n, v] w fun e w' => ∃ v' S, e = .returned v' ∧ Cg.RowK 5 encR w' v' (pairOut l S) ∧ Below w.heap.size w w' ∧ S.Perm ((List.range N).map fun (p : Nat) => recT N l p) ∧ Srt S := by
  have hN2 : N ≤ 256 := by
    have := hN
    unfold clampI at this
    split at this
    · omega
    · split at this <;> omega
  obtain ⟨ao, vc, rfl⟩ := h.form
  obtain ⟨w1, hw1⟩ : ∃ w1, w1 = w.alloc (.cells #[.slice ao l.length vc] 22) := ⟨_, rfl⟩
  have b1 : Below w.heap.size w w1 := by rw [hw1]; exact (Below.refl w.heap.size w).alloc (Nat.le_refl _) _
  have c1 : w1.cell? ⟨w.heap.size, 0, none⟩ = some (.slice ao l.length vc) := by rw [hw1]; exact cell_of_row _ _ 0 _ _ _ (heap_alloc_new w _)
  have s1 : w.heap.size < w1.heap.size := by rw [hw1]; show _ < (w.heap.push _).size; simp
  have HST := Lib.hid (standings_prog n N _ l w1 (h.below b1) hl hN hn)
  have B1 := Lib.hid b1
  have C1 := Lib.hid c1
  have S1 := Lib.hid s1
  have W1 := Lib.hid hw1
  have HL := Lib.hid h
  have HLN := Lib.hid (show l.length ≤ 1000000 by omega)
  rw [hw1] at c1
  clear h b1 s1 hw1 hN hn
  go_enter Try.func16, Try.ntmps16
  cases hodd : ((N : Int) % 2 == 1)
  · have HOD := Lib.hid (show ¬ N % 2 = 1 by have := beq_eq_false_iff_ne.1 hodd; omega)
    go_wp2_with (go_at_call 12; rw [← W1.out]; refine HST.out.mono ?_; rintro e w4 ⟨g, rows, rfl, hlen, hst⟩; have ST := Lib.hid hst; have LEN := Lib.hid hlen; clear hlen hst)
    have hgn := Lib.hid (show w.heap.size < g by have := ST.out.new; have := S1.out; omega)
    have HPV := Lib.hid (show Pv w4 w4 g (.slice (some ⟨g, 0, none⟩) N N) (.slice none 0 0) [] rows [] N [] from
      ⟨by rw [LEN.out]; rfl, by rw [LEN.out]; exact Nat.le_refl _, by omega, by rw [LEN.out]; show N + 0 ≤ 1000; omega, by rw [List.nil_append, List.append_nil]; exact ST.out.blk, ST.out.blk.lt, World.ownsRow_nil _ _ _ _, World.grownBy.refl _ _⟩)
    have B4 := Lib.hid (B1.out.trans (ST.out.bel.mono B1.out.size))
    have CB := Lib.hid ((ST.out.bel.cell (p := ⟨w.heap.size, 0, none⟩) S1.out).trans C1.out)
    have HB := Lib.hid (rowK_nil 5 encR w4)
    have HBF := Lib.hid (show ∀ b, (Value.slice none 0 0).ownBlock = some b → b ≠ g from fun b h => by cases h)
    have HQ := Lib.hid (show pairOut l (rows.map (·.1)) = (pairs l (rows.map (·.1.pl))).map rsPair ++ [] by
      unfold pairOut
      rw [List.length_map, LEN.out, if_neg HOD.out, List.append_nil, List.map_map]
      rfl)
    have HPM := Lib.hid ST.out.perm
    have HSR := Lib.hid (srt_of ST.out.srt)
    clear ST HOD hodd
    go_loopw [5, 8] (fun left out wr => ∃ pre xs post c ps, Pv w4 wr g left out pre xs post c ps ∧ Hid (ps ++ pairs l (xs.map (·.1.pl)) = pairs l (rows.map (·.1.pl)))) (fun left _ _ => lenV left)
    case atStart => exact ⟨[], rows, [], N, [], HPV.out, Lib.hid rfl⟩
    case round =>
      obtain ⟨pre, xs, post, c, ps, hp, HE⟩ := hrel
      obtain rfl := hp.left_
      have P := Lib.hid hp
      have hcap := hp.cap
      have hcm := hp.capm
      have hfew := hp.few
      clear hp
      have BW := Lib.hid (show RowKit.Below w.heap.size w wr from ⟨P.out.grow.os.trans B4.out.os, P.out.grow.tape.trans B4.out.tape, P.out.grow.output.trans B4.out.output, Nat.le_trans B4.out.size P.out.grow.size, fun k hk => (P.out.grow.block k (Nat.lt_of_lt_of_le hk B4.out.size) (fun e => by have := hgn.out; cases e; omega)).trans (B4.out.block k hk)⟩)
      have SW := Lib.hid P.out.grow.size
      have SG := Lib.hid (show w.heap.size < w4.heap.size by have := hgn.out; have := P.out.lt; omega)
      have CW := Lib.hid ((World.cell?_of_block (a := ⟨w.heap.size, 0, none⟩) (P.out.grow.block w.heap.size SG.out (fun e => by have := hgn.out; cases e; omega))).trans CB.out)
      by_cases h1 : 1 < xs.length
      · obtain ⟨x0, hx0⟩ : ∃ y, xs[0]? = some y := ⟨_, List.getElem?_eq_getElem (by omega)⟩
        obtain ⟨a, ha⟩ : ∃ a, a = x0.1.pl := ⟨_, rfl⟩
        have c0 := P.out.blk.cell pre.length x0 (by rw [List.append_assoc, List.getElem?_append_right (Nat.le_refl _), Nat.sub_self, List.getElem?_append_left (by omega)]; exact hx0) 0 _ rfl
        rw [← ha, Nat.add_zero] at c0
        have hc1 : ¬ c = 1 := by omega
        have hc2 : 1 ≤ c := by omega
        have hx1 : 1 ≤ xs.length := by omega
        have HX0 := Lib.hid hx0
        have HA := Lib.hid ha
        obtain ⟨wa, hwa⟩ : ∃ wa, wa = wr.alloc (.cells #[.int .i64 a] 3) := ⟨_, rfl⟩
        have bwa : RowKit.Below wr.heap.size wr wa := by rw [hwa]; exact (Below.refl wr.heap.size wr).alloc (Nat.le_refl _) _
        have CA := Lib.hid (show wa.cell? ⟨wr.heap.size, 0, none⟩ = some (.int .i64 a) by rw [hwa]; exact cell_of_row _ _ 0 _ _ _ (heap_alloc_new wr _))
        have hsa : wr.heap.size < wa.heap.size := by rw [hwa]; show _ < (wr.heap.push _).size; simp
        have hgw : g < wr.heap.size := by have := P.out.lt; have := SW.out; omega
        have hpart : Cg.RowK 8 encT wa (.slice (some ⟨g, pre.length * 8 + 8, none⟩) (xs.length - 1) (c - 1)) (xs.drop 1) := by
          have hb : BlkK 8 encT 35 wa g ((pre ++ [x0]) ++ xs.drop 1 ++ post) := by
            rw [List.append_assoc pre, List.singleton_append, cons_drop xs x0 hx0]
            exact P.out.blk.same (bwa.block g hgw)
          have := BlkK.part hb (c - 1) (by rw [List.length_drop]; omega)
          rw [List.length_append, List.length_singleton, Nat.add_mul, Nat.one_mul, List.length_drop] at this
          exact this
        have HIX := Lib.hid (indexFunc_s _ _ (xs.drop 1) l a w.heap.size wr.heap.size wa hpart (by rw [List.length_drop]; omega) ((bwa.cell (p := ⟨w.heap.size, 0, none⟩) (by have := SW.out; have := SG.out; show w.heap.size < wr.heap.size; omega)).trans CW.out) CA.out (HL.out.below (BW.out.trans (bwa.mono BW.out.size))) HLN.out)
        obtain ⟨p, hp⟩ : ∃ p, p = pick l a ((xs.drop 1).map fun x => x.1.pl) := ⟨_, rfl⟩
        have hpl : p < xs.length - 1 := by
          have := pick_lt l a ((xs.drop 1).map fun x => x.1.pl) (by rw [List.length_map, List.length_drop]; omega)
          rw [List.length_map, List.length_drop] at this
          rw [hp]
          exact this
        rw [← hp] at HIX
        obtain ⟨j, hj⟩ : ∃ j, j = p + 1 := ⟨_, rfl⟩
        have hjz : ((p : Nat) : Int) + 1 = (j : Int) := by omega
        have hjl : j < xs.length := by omega
        have hj0 : 0 < j := by omega
        have HP := Lib.hid hp
        have HJ := Lib.hid hj
        have BA := Lib.hid bwa
        have SA := Lib.hid hsa
        have HGW := Lib.hid hgw
        have HWA := Lib.hid hwa
        obtain ⟨y, hy⟩ : ∃ y, xs[j]? = some y := ⟨_, List.getElem?_eq_getElem hjl⟩
        have HY := Lib.hid hy
        obtain ⟨b, hb⟩ : ∃ b, b = y.1.pl := ⟨_, rfl⟩
        have cj := P.out.blk.cell (pre.length + j) y (by rw [List.append_assoc, List.getElem?_append_right (by omega), Nat.add_sub_cancel_left, List.getElem?_append_left hjl]; exact hy) 0 _ rfl
        rw [← hb, Nat.add_zero, Nat.add_mul] at cj
        have CJ := Lib.hid cj
        have HBB := Lib.hid hb
        clear hx0 ha hp hj bwa hsa hgw hwa hpart hy hb cj
        go_wp2_with (go_at_call 31; rw [← HWA.out]; refine HIX.out.mono ?_; rintro e w5 ⟨z, rfl, hz, b5⟩; have B5 := Lib.hid b5; clear b5)
        have SW5 := Lib.hid (show wr.heap.size < w5.heap.size by have := B5.out.size; have := SA.out; omega)
        have SG5 := Lib.hid (show g < w5.heap.size by have := HGW.out; have := SW5.out; omega)
        have PS5 := Lib.hid (show PS wr.heap.size g (pre.length * 8 + j * 8) a b w5 from ⟨(B5.out.cell (p := ⟨wr.heap.size, 0, none⟩) SA.out).trans CA.out, (B5.out.cell (p := ⟨g, pre.length * 8 + j * 8, none⟩) (by have := HGW.out; have := SA.out; show g < wa.heap.size; omega)).trans ((BA.out.cell (p := ⟨g, pre.length * 8 + j * 8, none⟩) HGW.out).trans CJ.out)⟩)
        have P5 := Lib.hid ((P.out.step BA.out).step B5.out)
        have BD := Lib.hid ((Below.refl w5.heap.size w5).drew.alloc (show w5.heap.size ≤ w5.drew.heap.size from Nat.le_refl _) (.cells (encR ⟨a, b, 0, 0, 0⟩).toArray 31))
        have P8 := Lib.hid (P5.out.step BD.out)
        have PS8 := Lib.hid (PS5.out.keep (BD.out.block _ SW5.out) (BD.out.block _ SG5.out))
        have R8 := Lib.hid (res_row w5.drew ⟨a, b, 0, 0, 0⟩ 31)
        have hj1 : (0 : Int) ≤ (j : Int) := by omega
        refine wp_region_noPanic ?_
        refine wp_region_held_drew (S := PS wr.heap.size g (pre.length * 8 + j * 8) a b) (by kernel_rfl) (PS5.out) (fun hHeld => ?_)
        refine wpAnyH_take (i := 0) (oi := ?oiP0x) (v := ?vP0x) ?hiP0x (by kernel_rfl) (by kernel_rfl) (by kernel_rfl) ?hqP0x ?hyP0x (by assumption) ?restP0x
        case hiP0x => (simp only [List.getElem?_toArray, List.getElem?_cons_zero] <;> rfl)
        case hqP0x => exact fun _ _ _ h => h
        case hyP0x => exact Or.inl ⟨by rfl, by (intro wS hSw; obtain ⟨q0, q1⟩ := hSw; go_simp; try with_reducible rfl)⟩
        try simp only [Act.put, List.setIfInBounds_toArray, List.set_cons_zero, List.set_cons_succ]
        refine wpAnyH_take (i := 1) (oi := ?oiP1x) (v := ?vP1x) ?hiP1x (by kernel_rfl) (by kernel_rfl) (by kernel_rfl) ?hqP1x ?hyP1x (by assumption) ?restP1x
        case hiP1x => (simp only [List.getElem?_toArray, List.getElem?_cons_succ, List.getElem?_cons_zero] <;> rfl)
        case hqP1x => exact fun _ _ _ h => h
        case hyP1x => exact Or.inl ⟨by rfl, by (intro wS hSw; obtain ⟨q0, q1⟩ := hSw; go_simp; try with_reducible rfl)⟩
        try simp only [Act.put, List.setIfInBounds_toArray, List.set_cons_zero, List.set_cons_succ]
        refine wpAnyH_take (i := 2) (oi := ?oiP2x) (v := ?vP2x) ?hiP2x (by kernel_rfl) (by kernel_rfl) (by kernel_rfl) ?hqP2x ?hyP2x (by assumption) ?restP2x
        case hiP2x => (simp only [List.getElem?_toArray, List.getElem?_cons_succ, List.getElem?_cons_zero] <;> rfl)
        case hqP2x => exact fun _ _ _ h => h
        case hyP2x => exact Or.inl ⟨by rfl, by (intro wS hSw; obtain ⟨q0, q1⟩ := hSw; go_simp; try with_reducible rfl)⟩
        try simp only [Act.put, List.setIfInBounds_toArray, List.set_cons_zero, List.set_cons_succ]
        refine wpAnyH_take (i := 3) (oi := ?oiP3x) (v := ?vP3x) ?hiP3x (by kernel_rfl) (by kernel_rfl) (by kernel_rfl) ?hqP3x ?hyP3x (by assumption) ?restP3x
        case hiP3x => (simp only [List.getElem?_toArray, List.getElem?_cons_succ, List.getElem?_cons_zero] <;> rfl)
        case hqP3x => exact fun _ _ _ h => h
        case hyP3x => exact Or.inl ⟨by rfl, by (intro wS hSw; obtain ⟨q0, q1⟩ := hSw; go_simp; try with_reducible rfl)⟩
        try simp only [Act.put, List.setIfInBounds_toArray, List.set_cons_zero, List.set_cons_succ]
        refine wpAnyH_take (i := 4) (oi := ?oiP4x) (v := ?vP4x) ?hiP4x (by kernel_rfl) (by kernel_rfl) (by kernel_rfl) ?hqP4x ?hyP4x (by assumption) ?restP4x
        case hiP4x => (simp only [List.getElem?_toArray, List.getElem?_cons_succ, List.getElem?_cons_zero] <;> rfl)
        case hqP4x => exact fun _ _ _ h => h
        case hyP4x => exact Or.inl ⟨by rfl, by (intro wS hSw; obtain ⟨q0, q1⟩ := hSw; go_simp; try with_reducible rfl)⟩
        try simp only [Act.put, List.setIfInBounds_toArray, List.set_cons_zero, List.set_cons_succ]
        refine wpAnyH_take (i := 5) (oi := ?oiP5x) (v := ?vP5x) ?hiP5x (by kernel_rfl) (by kernel_rfl) (by kernel_rfl) ?hqP5x ?hyP5x (by assumption) ?restP5x
        case hiP5x => (simp only [List.getElem?_toArray, List.getElem?_cons_succ, List.getElem?_cons_zero] <;> rfl)
        case hqP5x => exact fun _ _ _ h => h
        case hyP5x => exact Or.inl ⟨by rfl, by (intro wS hSw; obtain ⟨q0, q1⟩ := hSw; go_simp; try with_reducible rfl)⟩
        try simp only [Act.put, List.setIfInBounds_toArray, List.set_cons_zero, List.set_cons_succ]
        refine wpAnyH_take (i := 6) (oi := ?oiP6x) (v := ?vP6x) ?hiP6x (by kernel_rfl) (by kernel_rfl) (by kernel_rfl) ?hqP6x ?hyP6x (by assumption) ?restP6x
        case hiP6x => (simp only [List.getElem?_toArray, List.getElem?_cons_succ, List.getElem?_cons_zero] <;> rfl)
        case hqP6x => exact fun _ _ _ h => h
        case hyP6x => exact Or.inl ⟨by rfl, by (intro wS hSw; obtain ⟨q0, q1⟩ := hSw; go_simp; try with_reducible rfl)⟩
        try simp only [Act.put, List.setIfInBounds_toArray, List.set_cons_zero, List.set_cons_succ]
        refine wpAnyH_take (i := 7) (oi := ?oiP7x) (v := ?vP7x) ?hiP7x (by kernel_rfl) (by kernel_rfl) (by kernel_rfl) ?hqP7x ?hyP7x (by assumption) ?restP7x
        case hiP7x => (simp only [List.getElem?_toArray, List.getElem?_cons_succ, List.getElem?_cons_zero] <;> rfl)
        case hqP7x => exact fun _ _ _ h => h
        case hyP7x => exact Or.inl ⟨by rfl, by (intro wS hSw; obtain ⟨q0, q1⟩ := hSw; go_simp; try with_reducible rfl)⟩
        try simp only [Act.put, List.setIfInBounds_toArray, List.set_cons_zero, List.set_cons_succ]
        refine wpAnyH_ready (rs := [8]) (by kernel_rfl) (by simp) ?_
        refine AllReadyH.cons (o := ?oiP8x) ?hiP8x (fun K hK => ?hsP8x) AllReadyH.nil
        case hiP8x => (simp only [List.getElem?_toArray, List.getElem?_cons_succ, List.getElem?_cons_zero] <;> rfl)
        go_simp
        refine hK.out _ _ PS8.out (fun hHeld8 => ?_)
        clear hK K
        try simp only [Act.put, List.setIfInBounds_toArray, List.set_cons_zero, List.set_cons_succ]
        refine wpAnyH_ready (rs := [9]) (by kernel_rfl) (by simp) ?_
        refine AllReadyH.cons (o := ?oiP9x) ?hiP9x (fun K hK => ?hsP9x) AllReadyH.nil
        case hiP9x => (simp only [List.getElem?_toArray, List.getElem?_cons_succ, List.getElem?_cons_zero] <;> rfl)
        refine step_append_rowK rfl (.tmp 46) (.tmp 54) 22 rfl w4.heap.size resElem u8 ps.length _ rfl P8.out.own encR encR_len encR_one [⟨a, b, 0, 0, 0⟩] ⟨w5.heap.size, 0, none⟩ 1 1 rfl R8.out (by show (ps.length + 1) * 40 ≤ _; omega) (by show ps.length + 1 < _; omega) P8.out.grow.size ?_
        intro v9 w9 own9 grow9 bel9
        have PS9 := Lib.hid (PS8.out.keep (grow9.block _ (Nat.lt_of_lt_of_le SW5.out BD.out.size) (fun e => Nat.lt_irrefl _ (P.out.own.lt _ e.symm).2)) (grow9.block _ (Nat.lt_of_lt_of_le SG5.out BD.out.size) (fun e => by have := (P8.out.own.lt g e.symm).1; have := P8.out.lt; omega)))
        have K9 := Lib.hid (P8.out.blk.same (grow9.block g (Nat.lt_of_lt_of_le SG5.out BD.out.size) (fun e => by have := (P8.out.own.lt g e.symm).1; have := P8.out.lt; omega)))
        have GR9 := Lib.hid (show w4.grownBy w9 (some g) from ⟨bel9.os.trans P8.out.grow.os, bel9.tape.trans P8.out.grow.tape, bel9.output.trans P8.out.grow.output, Nat.le_trans P8.out.grow.size bel9.size, fun k hk hne => (bel9.block k hk).trans (P8.out.grow.block k hk hne)⟩)
        have O9 := Lib.hid own9
        clear own9 grow9 bel9
        refine hK.out _ _ PS9.out (fun hHeld9 => ?_)
        clear hK K
        try simp only [Act.put, List.setIfInBounds_toArray, List.set_cons_zero, List.set_cons_succ]
        refine wpAnyH_take (i := 10) (oi := ?oiP10x) (v := ?vP10x) ?hiP10x (by kernel_rfl) (by kernel_rfl) (by kernel_rfl) ?hqP10x ?hyP10x (by assumption) ?restP10x
        case hiP10x => (simp only [List.getElem?_toArray, List.getElem?_cons_succ, List.getElem?_cons_zero] <;> rfl)
        case hqP10x => exact fun _ _ _ h => h
        case hyP10x => exact Or.inl ⟨by rfl, by (intro wS hSw; obtain ⟨q0, q1⟩ := hSw; go_simp; try with_reducible rfl)⟩
        try simp only [Act.put, List.setIfInBounds_toArray, List.set_cons_zero, List.set_cons_succ]
        refine wpAnyH_done (by kernel_rfl) ?_ _
        refine NoPanic.normal ?_
        go_wp2_with (go_at_call 30; refine (delete_at g xs.length c j (pre.length * 8) pre xs post w9 K9.out rfl rfl hjl hcap (by omega)).mono ?_; rintro e w10 ⟨rfl, blk10, grow10⟩; have K10 := Lib.hid blk10; have G10 := Lib.hid grow10; have hx2 : 1 ≤ xs.length - 1 := (by omega); clear blk10 grow10)
        go_round
        case rel =>
          have el : (xs.eraseIdx j).length = xs.length - 1 := List.length_eraseIdx_of_lt hjl
          have ed : ((xs.eraseIdx j).drop 1).length = xs.length - 1 - 1 := by rw [List.length_drop, el]
          refine ⟨pre ++ [x0], (xs.eraseIdx j).drop 1, (st0 0, (none, 0, 0)) :: post, c - 1, ps ++ [(a, b)], ⟨?_, ?_, ?_, ?_, ?_, P.out.lt, ?_, GR9.out.trans G10.out⟩, Lib.hid ?_⟩
          · rw [ed, List.length_append, List.length_singleton, Nat.add_mul]
          · rw [ed]; omega
          · omega
          · rw [ed, List.length_append, List.length_singleton]; omega
          · have := K10.out
            rw [erase_head xs x0 HX0.out j hj0] at this
            rw [List.append_assoc pre, List.singleton_append]
            exact this
          · rw [List.length_append, List.length_singleton, List.map_append, List.flatMap_append]
            exact own_far O9.out P.out.lt G10.out
          · rw [List.append_assoc, List.singleton_append, ← HE.out, pairs_step l (xs.map (·.1.pl)) (by rw [List.length_map]; exact h1) j (by rw [List.length_map]; exact hjl) ?_]
            · have e0 : (xs.map (·.1.pl))[0]'(by rw [List.length_map]; omega) = a := by
                rw [List.getElem_map]
                have := List.getElem?_eq_some_iff.1 HX0.out
                rw [this.2, HA.out]
              have e1 : (xs.map (·.1.pl))[j]'(by rw [List.length_map]; exact hjl) = b := by
                rw [List.getElem_map]
                have := List.getElem?_eq_some_iff.1 HY.out
                rw [this.2, HBB.out]
              rw [e0, e1, erase_map, List.map_drop]
            · have e0 : (xs.map (·.1.pl))[0]'(by rw [List.length_map]; omega) = a := by
                rw [List.getElem_map]
                have := List.getElem?_eq_some_iff.1 HX0.out
                rw [this.2, HA.out]
              rw [e0, HJ.out, HP.out, List.map_drop]
        case measure =>
          show xs.length - 1 - 1 < xs.length
          omega
      · have HBW := Lib.hid (RowK.far HB.out HBF.out P.out.grow)
        go_wp2_with (at_builtin; refine wpList_append_rowK rfl (.tmp 62) (.tmp 63) 22 rfl w4.heap.size resElem u8 ps.length _ rfl P.out.own encR encR_len encR_one [] (.slice none 0 0) rfl HBW.out (by show (ps.length + 0) * 40 ≤ _; omega) (by show ps.length + 0 < _; omega) SW.out ?_; intro v9 w9 own9 _ bel9; have O9 := Lib.hid own9; have B9 := Lib.hid bel9; clear own9 bel9)
        go_ret
        refine ⟨_, rfl, rows.map (·.1), ?_, BW.out.trans ⟨B9.out.os, B9.out.tape, B9.out.output, B9.out.size, fun k hk => B9.out.block k (Nat.lt_of_lt_of_le hk B4.out.size)⟩, HPM.out, HSR.out⟩
        have e : ps = pairs l (rows.map (·.1.pl)) := by
          have := HE.out
          rwa [pairs_short l (xs.map (·.1.pl)) (by rw [List.length_map]; omega), List.append_nil] at this
        rw [HQ.out, ← e]
        have := O9.out
        rw [← List.flatMap_append] at this
        exact rowK_own encR_len (by rw [List.length_append, List.length_map]; exact this)
  · have HOD := Lib.hid (show N % 2 = 1 by have := beq_iff_eq.1 hodd; omega)
    have hN0 : 0 < N := by have := HOD.out; omega
    go_wp2_with (first
      | (go_at_call 12; rw [← W1.out]; refine HST.out.mono ?_; rintro e w2 ⟨g, rows, rfl, hlen, hst⟩; have ST := Lib.hid hst; have LEN := Lib.hid hlen; have RK := ST.out.blk.row N (Nat.le_of_eq hlen); rw [hlen] at RK; obtain ⟨i, hi⟩ : ∃ i, i = restI (rows.map (·.1)) := ⟨_, rfl⟩; have HI := Lib.hid hi; have hiN : i < N := by { rw [hi, ← hlen]; have := restI_lt (rows.map (·.1)) (by rw [List.length_map]; omega); rwa [List.length_map] at this }; obtain ⟨y, hy⟩ : ∃ y, rows[i]? = some y := ⟨_, List.getElem?_eq_getElem (by omega)⟩; have HY := Lib.hid hy; have HR := rests_prog _ rows w2 RK (by omega) (by omega); rw [← hi] at HR; have HRR := Lib.hid HR; have c0 := ST.out.blk.cell i y hy 0 _ rfl; obtain ⟨pl, hpl⟩ : ∃ pl, pl = y.1.pl := ⟨_, rfl⟩; rw [← hpl, Nat.add_zero] at c0; have HPL := Lib.hid hpl; clear hlen hst RK hi hy HR hpl)
      | (go_at_call 29; refine HRR.out.mono ?_; rintro e w3 ⟨rfl, q, rfl⟩)
      | (go_at_call 30; have BX := Lib.hid ((drewN_grow w2 q).alloc (show w2.heap.size ≤ (w2.drewN q).heap.size from Nat.le_refl _) (.cells (encR ⟨pl, -1, 0, 0, 0⟩).toArray 31)); have RB := Lib.hid (res_row (w2.drewN q) ⟨pl, -1, 0, 0, 0⟩ 31); refine (delete_at g N N i 0 [] rows [] _ (by rw [List.nil_append, List.append_nil]; exact ST.out.blk.same (BX.out.block g ST.out.blk.lt)) rfl LEN.out hiN (Nat.le_refl _) (by omega)).mono ?_; rintro e w4 ⟨rfl, blk4, grow4⟩; have K4 := Lib.hid blk4; have G4 := Lib.hid grow4; clear blk4 grow4))
    have hgn := Lib.hid (show w.heap.size < g by have := ST.out.new; have := S1.out; omega)
    have hgl := Lib.hid ST.out.blk.lt
    have hlx : (rows.eraseIdx i).length = N - 1 := by rw [List.length_eraseIdx_of_lt (by rw [LEN.out]; exact hiN), LEN.out]
    have LX := Lib.hid hlx
    have SZ := Lib.hid G4.out.size
    have HPV := Lib.hid (show Pv w4 w4 g (.slice (some ⟨g, 0, none⟩) (N - 1) N) (.slice none 0 0) [] (rows.eraseIdx i) [(st0 0, (none, 0, 0))] N [] from
      ⟨by rw [hlx]; rfl, by rw [hlx]; omega, by omega, by rw [hlx]; show N - 1 + 0 ≤ 1000; omega, K4.out, K4.out.lt, World.ownsRow_nil _ _ _ _, World.grownBy.refl _ _⟩)
    have G24 := Lib.hid (show w2.grownBy w4 (some g) from World.grownBy.trans ⟨BX.out.os, BX.out.tape, BX.out.output, BX.out.size, fun k hk _ => BX.out.block k hk⟩ G4.out)
    have B4 := Lib.hid (show RowKit.Below w.heap.size w w4 by
      have h2 := B1.out.trans (ST.out.bel.mono B1.out.size)
      have hg := hgn.out
      exact ⟨G24.out.os.trans h2.os, G24.out.tape.trans h2.tape, G24.out.output.trans h2.output, Nat.le_trans h2.size G24.out.size, fun k hk => (G24.out.block k (Nat.lt_of_lt_of_le hk h2.size) (fun e => by cases e; omega)).trans (h2.block k hk)⟩)
    have CB := Lib.hid ((World.cell?_of_block (a := ⟨w.heap.size, 0, none⟩) (G24.out.block w.heap.size (Nat.lt_of_lt_of_le S1.out ST.out.bel.size) (fun e => by have := hgn.out; cases e; omega))).trans ((ST.out.bel.cell (p := ⟨w.heap.size, 0, none⟩) S1.out).trans C1.out))
    have HB := Lib.hid (RowK.far RB.out (fun b hb => by have := hgl.out; cases hb; show w2.heap.size ≠ g; omega) G4.out)
    have HBF := Lib.hid (show ∀ b, (Value.slice (some ⟨w2.heap.size, 0, none⟩) 1 1).ownBlock = some b → b ≠ g from fun b hb => by have := hgl.out; cases hb; show w2.heap.size ≠ g; omega)
    have HQ := Lib.hid (show pairOut l (rows.map (·.1)) = (pairs l ((rows.eraseIdx i).map (·.1.pl))).map rsPair ++ [⟨pl, -1, 0, 0, 0⟩] by
      unfold pairOut
      rw [List.length_map, LEN.out, if_pos HOD.out, ← HI.out, List.getElem?_map, HY.out, erase_map, List.map_map, HPL.out]
      rfl)
    have HPM := Lib.hid ST.out.perm
    have HSR := Lib.hid (srt_of ST.out.srt)
    clear ST HOD hodd c0 HRR HI HY K4 G4 RB BX hlx
    go_loopw [5, 8] (fun left out wr => ∃ pre xs post c ps, Pv w4 wr g left out pre xs post c ps ∧ Hid (ps ++ pairs l (xs.map (·.1.pl)) = pairs l ((rows.eraseIdx i).map (·.1.pl)))) (fun left _ _ => lenV left)
    case atStart => exact ⟨[], (rows.eraseIdx i), [(st0 0, (none, 0, 0))], N, [], HPV.out, Lib.hid rfl⟩
    case round =>
      obtain ⟨pre, xs, post, c, ps, hp, HE⟩ := hrel
      obtain rfl := hp.left_
      have P := Lib.hid hp
      have hcap := hp.cap
      have hcm := hp.capm
      have hfew := hp.few
      clear hp
      have BW := Lib.hid (show RowKit.Below w.heap.size w wr from ⟨P.out.grow.os.trans B4.out.os, P.out.grow.tape.trans B4.out.tape, P.out.grow.output.trans B4.out.output, Nat.le_trans B4.out.size P.out.grow.size, fun k hk => (P.out.grow.block k (Nat.lt_of_lt_of_le hk B4.out.size) (fun e => by have := hgn.out; cases e; omega)).trans (B4.out.block k hk)⟩)
      have SW := Lib.hid P.out.grow.size
      have SG := Lib.hid (show w.heap.size < w4.heap.size by have := hgn.out; have := P.out.lt; omega)
      have CW := Lib.hid ((World.cell?_of_block (a := ⟨w.heap.size, 0, none⟩) (P.out.grow.block w.heap.size SG.out (fun e => by have := hgn.out; cases e; omega))).trans CB.out)
      by_cases h1 : 1 < xs.length
      · obtain ⟨x0, hx0⟩ : ∃ y, xs[0]? = some y := ⟨_, List.getElem?_eq_getElem (by omega)⟩
        obtain ⟨a, ha⟩ : ∃ a, a = x0.1.pl := ⟨_, rfl⟩
        have c0 := P.out.blk.cell pre.length x0 (by rw [List.append_assoc, List.getElem?_append_right (Nat.le_refl _), Nat.sub_self, List.getElem?_append_left (by omega)]; exact hx0) 0 _ rfl
        rw [← ha, Nat.add_zero] at c0
        have hc1 : ¬ c = 1 := by omega
        have hc2 : 1 ≤ c := by omega
        have hx1 : 1 ≤ xs.length := by omega
        have HX0 := Lib.hid hx0
        have HA := Lib.hid ha
        obtain ⟨wa, hwa⟩ : ∃ wa, wa = wr.alloc (.cells #[.int .i64 a] 3) := ⟨_, rfl⟩
        have bwa : RowKit.Below wr.heap.size wr wa := by rw [hwa]; exact (Below.refl wr.heap.size wr).alloc (Nat.le_refl _) _
        have CA := Lib.hid (show wa.cell? ⟨wr.heap.size, 0, none⟩ = some (.int .i64 a) by rw [hwa]; exact cell_of_row _ _ 0 _ _ _ (heap_alloc_new wr _))
        have hsa : wr.heap.size < wa.heap.size := by rw [hwa]; show _ < (wr.heap.push _).size; simp
        have hgw : g < wr.heap.size := by have := P.out.lt; have := SW.out; omega
        have hpart : Cg.RowK 8 encT wa (.slice (some ⟨g, pre.length * 8 + 8, none⟩) (xs.length - 1) (c - 1)) (xs.drop 1) := by
          have hb : BlkK 8 encT 35 wa g ((pre ++ [x0]) ++ xs.drop 1 ++ post) := by
            rw [List.append_assoc pre, List.singleton_append, cons_drop xs x0 hx0]
            exact P.out.blk.same (bwa.block g hgw)
          have := BlkK.part hb (c - 1) (by rw [List.length_drop]; omega)
          rw [List.length_append, List.length_singleton, Nat.add_mul, Nat.one_mul, List.length_drop] at this
          exact this
        have HIX := Lib.hid (indexFunc_s _ _ (xs.drop 1) l a w.heap.size wr.heap.size wa hpart (by rw [List.length_drop]; omega) ((bwa.cell (p := ⟨w.heap.size, 0, none⟩) (by have := SW.out; have := SG.out; show w.heap.size < wr.heap.size; omega)).trans CW.out) CA.out (HL.out.below (BW.out.trans (bwa.mono BW.out.size))) HLN.out)
        obtain ⟨p, hp⟩ : ∃ p, p = pick l a ((xs.drop 1).map fun x => x.1.pl) := ⟨_, rfl⟩
        have hpl : p < xs.length - 1 := by
          have := pick_lt l a ((xs.drop 1).map fun x => x.1.pl) (by rw [List.length_map, List.length_drop]; omega)
          rw [List.length_map, List.length_drop] at this
          rw [hp]
          exact this
        rw [← hp] at HIX
        obtain ⟨j, hj⟩ : ∃ j, j = p + 1 := ⟨_, rfl⟩
        have hjz : ((p : Nat) : Int) + 1 = (j : Int) := by omega
        have hjl : j < xs.length := by omega
        have hj0 : 0 < j := by omega
        have HP := Lib.hid hp
        have HJ := Lib.hid hj
        have BA := Lib.hid bwa
        have SA := Lib.hid hsa
        have HGW := Lib.hid hgw
        have HWA := Lib.hid hwa
        obtain ⟨y, hy⟩ : ∃ y, xs[j]? = some y := ⟨_, List.getElem?_eq_getElem hjl⟩
        have HY := Lib.hid hy
        obtain ⟨b, hb⟩ : ∃ b, b = y.1.pl := ⟨_, rfl⟩
        have cj := P.out.blk.cell (pre.length + j) y (by rw [List.append_assoc, List.getElem?_append_right (by omega), Nat.add_sub_cancel_left, List.getElem?_append_left hjl]; exact hy) 0 _ rfl
        rw [← hb, Nat.add_zero, Nat.add_mul] at cj
        have CJ := Lib.hid cj
        have HBB := Lib.hid hb
        clear hx0 ha hp hj bwa hsa hgw hwa hpart hy hb cj
        go_wp2_with (go_at_call 31; rw [← HWA.out]; refine HIX.out.mono ?_; rintro e w5 ⟨z, rfl, hz, b5⟩; have B5 := Lib.hid b5; clear b5)
        have SW5 := Lib.hid (show wr.heap.size < w5.heap.size by have := B5.out.size; have := SA.out; omega)
        have SG5 := Lib.hid (show g < w5.heap.size by have := HGW.out; have := SW5.out; omega)
        have PS5 := Lib.hid (show PS wr.heap.size g (pre.length * 8 + j * 8) a b w5 from ⟨(B5.out.cell (p := ⟨wr.heap.size, 0, none⟩) SA.out).trans CA.out, (B5.out.cell (p := ⟨g, pre.length * 8 + j * 8, none⟩) (by have := HGW.out; have := SA.out; show g < wa.heap.size; omega)).trans ((BA.out.cell (p := ⟨g, pre.length * 8 + j * 8, none⟩) HGW.out).trans CJ.out)⟩)
        have P5 := Lib.hid ((P.out.step BA.out).step B5.out)
        have BD := Lib.hid ((Below.refl w5.heap.size w5).drew.alloc (show w5.heap.size ≤ w5.drew.heap.size from Nat.le_refl _) (.cells (encR ⟨a, b, 0, 0, 0⟩).toArray 31))
        have P8 := Lib.hid (P5.out.step BD.out)
        have PS8 := Lib.hid (PS5.out.keep (BD.out.block _ SW5.out) (BD.out.block _ SG5.out))
        have R8 := Lib.hid (res_row w5.drew ⟨a, b, 0, 0, 0⟩ 31)
        have hj1 : (0 : Int) ≤ (j : Int) := by omega
        refine wp_region_noPanic ?_
        refine wp_region_held_drew (S := PS wr.heap.size g (pre.length * 8 + j * 8) a b) (by kernel_rfl) (PS5.out) (fun hHeld => ?_)
        refine wpAnyH_take (i := 0) (oi := ?oiQ0x) (v := ?vQ0x) ?hiQ0x (by kernel_rfl) (by kernel_rfl) (by kernel_rfl) ?hqQ0x ?hyQ0x (by assumption) ?restQ0x
        case hiQ0x => (simp only [List.getElem?_toArray, List.getElem?_cons_zero] <;> rfl)
        case hqQ0x => exact fun _ _ _ h => h
        case hyQ0x => exact Or.inl ⟨by rfl, by (intro wS hSw; obtain ⟨q0, q1⟩ := hSw; go_simp; try with_reducible rfl)⟩
        try simp only [Act.put, List.setIfInBounds_toArray, List.set_cons_zero, List.set_cons_succ]
        refine wpAnyH_take (i := 1) (oi := ?oiQ1x) (v := ?vQ1x) ?hiQ1x (by kernel_rfl) (by kernel_rfl) (by kernel_rfl) ?hqQ1x ?hyQ1x (by assumption) ?restQ1x
        case hiQ1x => (simp only [List.getElem?_toArray, List.getElem?_cons_succ, List.getElem?_cons_zero] <;> rfl)
        case hqQ1x => exact fun _ _ _ h => h
        case hyQ1x => exact Or.inl ⟨by rfl, by (intro wS hSw; obtain ⟨q0, q1⟩ := hSw; go_simp; try with_reducible rfl)⟩
        try simp only [Act.put, List.setIfInBounds_toArray, List.set_cons_zero, List.set_cons_succ]
        refine wpAnyH_take (i := 2) (oi := ?oiQ2x) (v := ?vQ2x) ?hiQ2x (by kernel_rfl) (by kernel_rfl) (by kernel_rfl) ?hqQ2x ?hyQ2x (by assumption) ?restQ2x
        case hiQ2x => (simp only [List.getElem?_toArray, List.getElem?_cons_succ, List.getElem?_cons_zero] <;> rfl)
        case hqQ2x => exact fun _ _ _ h => h
        case hyQ2x => exact Or.inl ⟨by rfl, by (intro wS hSw; obtain ⟨q0, q1⟩ := hSw; go_simp; try with_reducible rfl)⟩
        try simp only [Act.put, List.setIfInBounds_toArray, List.set_cons_zero, List.set_cons_succ]
        refine wpAnyH_take (i := 3) (oi := ?oiQ3x) (v := ?vQ3x) ?hiQ3x (by kernel_rfl) (by kernel_rfl) (by kernel_rfl) ?hqQ3x ?hyQ3x (by assumption) ?restQ3x
        case hiQ3x => (simp only [List.getElem?_toArray, List.getElem?_cons_succ, List.getElem?_cons_zero] <;> rfl)
        case hqQ3x => exact fun _ _ _ h => h
        case hyQ3x => exact Or.inl ⟨by rfl, by (intro wS hSw; obtain ⟨q0, q1⟩ := hSw; go_simp; try with_reducible rfl)⟩
        try simp only [Act.put, List.setIfInBounds_toArray, List.set_cons_zero, List.set_cons_succ]
        refine wpAnyH_take (i := 4) (oi := ?oiQ4x) (v := ?vQ4x) ?hiQ4x (by kernel_rfl) (by kernel_rfl) (by kernel_rfl) ?hqQ4x ?hyQ4x (by assumption) ?restQ4x
        case hiQ4x => (simp only [List.getElem?_toArray, List.getElem?_cons_succ, List.getElem?_cons_zero] <;> rfl)
        case hqQ4x => exact fun _ _ _ h => h
        case hyQ4x => exact Or.inl ⟨by rfl, by (intro wS hSw; obtain ⟨q0, q1⟩ := hSw; go_simp; try with_reducible rfl)⟩
        try simp only [Act.put, List.setIfInBounds_toArray, List.set_cons_zero, List.set_cons_succ]
        refine wpAnyH_take (i := 5) (oi := ?oiQ5x) (v := ?vQ5x) ?hiQ5x (by kernel_rfl) (by kernel_rfl) (by kernel_rfl) ?hqQ5x ?hyQ5x (by assumption) ?restQ5x
        case hiQ5x => (simp only [List.getElem?_toArray, List.getElem?_cons_succ, List.getElem?_cons_zero] <;> rfl)
        case hqQ5x => exact fun _ _ _ h => h
        case hyQ5x => exact Or.inl ⟨by rfl, by (intro wS hSw; obtain ⟨q0, q1⟩ := hSw; go_simp; try with_reducible rfl)⟩
        try simp only [Act.put, List.setIfInBounds_toArray, List.set_cons_zero, List.set_cons_succ]
        refine wpAnyH_take (i := 6) (oi := ?oiQ6x) (v := ?vQ6x) ?hiQ6x (by kernel_rfl) (by kernel_rfl) (by kernel_rfl) ?hqQ6x ?hyQ6x (by assumption) ?restQ6x
        case hiQ6x => (simp only [List.getElem?_toArray, List.getElem?_cons_succ, List.getElem?_cons_zero] <;> rfl)
        case hqQ6x => exact fun _ _ _ h => h
        case hyQ6x => exact Or.inl ⟨by rfl, by (intro wS hSw; obtain ⟨q0, q1⟩ := hSw; go_simp; try with_reducible rfl)⟩
        try simp only [Act.put, List.setIfInBounds_toArray, List.set_cons_zero, List.set_cons_succ]
        refine wpAnyH_take (i := 7) (oi := ?oiQ7x) (v := ?vQ7x) ?hiQ7x (by kernel_rfl) (by kernel_rfl) (by kernel_rfl) ?hqQ7x ?hyQ7x (by assumption) ?restQ7x
        case hiQ7x => (simp only [List.getElem?_toArray, List.getElem?_cons_succ, List.getElem?_cons_zero] <;> rfl)
        case hqQ7x => exact fun _ _ _ h => h
        case hyQ7x => exact Or.inl ⟨by rfl, by (intro wS hSw; obtain ⟨q0, q1⟩ := hSw; go_simp; try with_reducible rfl)⟩
        try simp only [Act.put, List.setIfInBounds_toArray, List.set_cons_zero, List.set_cons_succ]
        refine wpAnyH_ready (rs := [8]) (by kernel_rfl) (by simp) ?_
        refine AllReadyH.cons (o := ?oiQ8x) ?hiQ8x (fun K hK => ?hsQ8x) AllReadyH.nil
        case hiQ8x => (simp only [List.getElem?_toArray, List.getElem?_cons_succ, List.getElem?_cons_zero] <;> rfl)
        go_simp
        refine hK.out _ _ PS8.out (fun hHeld8 => ?_)
        clear hK K
        try simp only [Act.put, List.setIfInBounds_toArray, List.set_cons_zero, List.set_cons_succ]
        refine wpAnyH_ready (rs := [9]) (by kernel_rfl) (by simp) ?_
        refine AllReadyH.cons (o := ?oiQ9x) ?hiQ9x (fun K hK => ?hsQ9x) AllReadyH.nil
        case hiQ9x => (simp only [List.getElem?_toArray, List.getElem?_cons_succ, List.getElem?_cons_zero] <;> rfl)
        refine step_append_rowK rfl (.tmp 46) (.tmp 54) 22 rfl w4.heap.size resElem u8 ps.length _ rfl P8.out.own encR encR_len encR_one [⟨a, b, 0, 0, 0⟩] ⟨w5.heap.size, 0, none⟩ 1 1 rfl R8.out (by show (ps.length + 1) * 40 ≤ _; omega) (by show ps.length + 1 < _; omega) P8.out.grow.size ?_
        intro v9 w9 own9 grow9 bel9
        have PS9 := Lib.hid (PS8.out.keep (grow9.block _ (Nat.lt_of_lt_of_le SW5.out BD.out.size) (fun e => Nat.lt_irrefl _ (P.out.own.lt _ e.symm).2)) (grow9.block _ (Nat.lt_of_lt_of_le SG5.out BD.out.size) (fun e => by have := (P8.out.own.lt g e.symm).1; have := P8.out.lt; omega)))
        have K9 := Lib.hid (P8.out.blk.same (grow9.block g (Nat.lt_of_lt_of_le SG5.out BD.out.size) (fun e => by have := (P8.out.own.lt g e.symm).1; have := P8.out.lt; omega)))
        have GR9 := Lib.hid (show w4.grownBy w9 (some g) from ⟨bel9.os.trans P8.out.grow.os, bel9.tape.trans P8.out.grow.tape, bel9.output.trans P8.out.grow.output, Nat.le_trans P8.out.grow.size bel9.size, fun k hk hne => (bel9.block k hk).trans (P8.out.grow.block k hk hne)⟩)
        have O9 := Lib.hid own9
        clear own9 grow9 bel9
        refine hK.out _ _ PS9.out (fun hHeld9 => ?_)
        clear hK K
        try simp only [Act.put, List.setIfInBounds_toArray, List.set_cons_zero, List.set_cons_succ]
        refine wpAnyH_take (i := 10) (oi := ?oiQ10x) (v := ?vQ10x) ?hiQ10x (by kernel_rfl) (by kernel_rfl) (by kernel_rfl) ?hqQ10x ?hyQ10x (by assumption) ?restQ10x
        case hiQ10x => (simp only [List.getElem?_toArray, List.getElem?_cons_succ, List.getElem?_cons_zero] <;> rfl)
        case hqQ10x => exact fun _ _ _ h => h
        case hyQ10x => exact Or.inl ⟨by rfl, by (intro wS hSw; obtain ⟨q0, q1⟩ := hSw; go_simp; try with_reducible rfl)⟩
        try simp only [Act.put, List.setIfInBounds_toArray, List.set_cons_zero, List.set_cons_succ]
        refine wpAnyH_done (by kernel_rfl) ?_ _
        refine NoPanic.normal ?_
        go_wp2_with (go_at_call 30; refine (delete_at g xs.length c j (pre.length * 8) pre xs post w9 K9.out rfl rfl hjl hcap (by omega)).mono ?_; rintro e w10 ⟨rfl, blk10, grow10⟩; have K10 := Lib.hid blk10; have G10 := Lib.hid grow10; have hx2 : 1 ≤ xs.length - 1 := (by omega); clear blk10 grow10)
        go_round
        case rel =>
          have el : (xs.eraseIdx j).length = xs.length - 1 := List.length_eraseIdx_of_lt hjl
          have ed : ((xs.eraseIdx j).drop 1).length = xs.length - 1 - 1 := by rw [List.length_drop, el]
          refine ⟨pre ++ [x0], (xs.eraseIdx j).drop 1, (st0 0, (none, 0, 0)) :: post, c - 1, ps ++ [(a, b)], ⟨?_, ?_, ?_, ?_, ?_, P.out.lt, ?_, GR9.out.trans G10.out⟩, Lib.hid ?_⟩
          · rw [ed, List.length_append, List.length_singleton, Nat.add_mul]
          · rw [ed]; omega
          · omega
          · rw [ed, List.length_append, List.length_singleton]; omega
          · have := K10.out
            rw [erase_head xs x0 HX0.out j hj0] at this
            rw [List.append_assoc pre, List.singleton_append]
            exact this
          · rw [List.length_append, List.length_singleton, List.map_append, List.flatMap_append]
            exact own_far O9.out P.out.lt G10.out
          · rw [List.append_assoc, List.singleton_append, ← HE.out, pairs_step l (xs.map (·.1.pl)) (by rw [List.length_map]; exact h1) j (by rw [List.length_map]; exact hjl) ?_]
            · have e0 : (xs.map (·.1.pl))[0]'(by rw [List.length_map]; omega) = a := by
                rw [List.getElem_map]
                have := List.getElem?_eq_some_iff.1 HX0.out
                rw [this.2, HA.out]
              have e1 : (xs.map (·.1.pl))[j]'(by rw [List.length_map]; exact hjl) = b := by
                rw [List.getElem_map]
                have := List.getElem?_eq_some_iff.1 HY.out
                rw [this.2, HBB.out]
              rw [e0, e1, erase_map, List.map_drop]
            · have e0 : (xs.map (·.1.pl))[0]'(by rw [List.length_map]; omega) = a := by
                rw [List.getElem_map]
                have := List.getElem?_eq_some_iff.1 HX0.out
                rw [this.2, HA.out]
              rw [e0, HJ.out, HP.out, List.map_drop]
        case measure =>
          show xs.length - 1 - 1 < xs.length
          omega
      · have HBW := Lib.hid (RowK.far HB.out HBF.out P.out.grow)
        go_wp2_with (at_builtin; refine wpList_append_rowK rfl (.tmp 62) (.tmp 63) 22 rfl w4.heap.size resElem u8 ps.length _ rfl P.out.own encR encR_len encR_one [⟨pl, -1, 0, 0, 0⟩] (.slice (some ⟨w2.heap.size, 0, none⟩) 1 1) rfl HBW.out (by show (ps.length + 1) * 40 ≤ _; omega) (by show ps.length + 1 < _; omega) SW.out ?_; intro v9 w9 own9 _ bel9; have O9 := Lib.hid own9; have B9 := Lib.hid bel9; clear own9 bel9)
        go_ret
        refine ⟨_, rfl, rows.map (·.1), ?_, BW.out.trans ⟨B9.out.os, B9.out.tape, B9.out.output, B9.out.size, fun k hk => B9.out.block k (Nat.lt_of_lt_of_le hk B4.out.size)⟩, HPM.out, HSR.out⟩
        have e : ps = pairs l ((rows.eraseIdx i).map (·.1.pl)) := by
          have := HE.out
          rwa [pairs_short l (xs.map (·.1.pl)) (by rw [List.length_map]; omega), List.append_nil] at this
        rw [HQ.out, ← e]
        have := O9.out
        rw [← List.flatMap_append] at this
        exact rowK_own encR_len (by rw [List.length_append, List.length_map]; exact this)
end Go.Proofs.Ytfjnnbhijajhoaa
