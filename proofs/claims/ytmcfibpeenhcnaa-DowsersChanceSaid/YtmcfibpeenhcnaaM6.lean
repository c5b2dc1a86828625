/- Merged by program: T34, T35, T36, T37, T38, T39, T40, T41, T50, T51. -/
import Derived.Test.YtmcfibpeenhcnaaM5
/- Order and Pay of the document; DowsersScore. -/
set_option linter.unusedSimpArgs false
set_option linter.unusedVariables false
set_option linter.unnecessarySimpa false
namespace Go.Proofs.Ytmcfibpeenhcnaa
open Go Go.V

theorem c59 (l : List Int) (n : Int) (hl : l.length < 4294967296) : Ctr Try.prog 59 [IS l, .int n] (.bool (decide (n ∈ l))) := by
  refine ctr_of_wp hmix Try.func59 m59 rfl ?_
  unfold v59
  simp -failIfUnchanged (disch := first | omega | (simp <;> omega) | fail) only [go_sem, simprocAttr]
  refine wp_loop' Nat (fun i => ⟨[(0, IS l), (1, .int n), (5, .int i)], [], [], none⟩) (fun i => i ≤ l.length ∧ n ∉ l.take i) (fun i => l.length - i) 0 (by simp) (by simp -failIfUnchanged (disch := first | omega | (simp <;> omega) | fail) only [go_sem, simprocAttr]; try rfl) ?_
  rintro i ⟨hi, hpre⟩
  simp -failIfUnchanged (disch := first | omega | (simp <;> omega) | fail) only [go_sem, simprocAttr]
  refine wcond_dec (fun h => ?_) (fun h => ?_)
  · have hlt : i < l.length := by omega
    have e1 : l[i]? = some l[i] := List.getElem?_eq_getElem hlt
    simp -failIfUnchanged (disch := first | omega | (simp <;> omega) | fail) only [go_sem, simprocAttr]
    rw [e1]
    simp -failIfUnchanged (disch := first | omega | (simp <;> omega) | fail) only [go_sem, simprocAttr]
    refine wcond_dec (fun h => ?_) (fun h => ?_)
    · simp -failIfUnchanged (disch := first | omega | (simp <;> omega) | fail) only [go_sem, simprocAttr]
      have : n ∈ l := by rw [← h]; exact List.getElem_mem _
      simp [this]
    · simp -failIfUnchanged (disch := first | omega | (simp <;> omega) | fail) only [go_sem, simprocAttr]
      refine ⟨i + 1, ⟨by omega, ?_⟩, by dsimp only; omega, ?_⟩
      · rw [List.take_add_one, e1, List.mem_append]
        rintro (h2 | h2)
        · exact hpre h2
        · simp at h2; exact h h2.symm
      · simp -failIfUnchanged (disch := first | omega | (simp <;> omega) | fail) only [go_sem, simprocAttr]
        simp
  · simp -failIfUnchanged (disch := first | omega | (simp <;> omega) | fail) only [go_sem, simprocAttr]
    have e : i = l.length := by omega
    rw [e, List.take_length] at hpre
    simp [hpre]

theorem nI_mem {k : Nat} {l : List Nat} : (((k : Nat) : Int) ∈ nI l) = (k ∈ l) := by
  apply propext
  simp only [nI, List.mem_map]
  constructor
  · rintro ⟨x, hx, e⟩
    obtain rfl : x = k := by omega
    exact hx
  · intro h
    exact ⟨k, h, rfl⟩

theorem c32f (b : Bk) (hv : BV b) (hn : b.say.length < 4294967296) (d : Nat) : Ctr Try.prog 32 [DB b, .int d, IS b.found] (.int (sc b d)) := c32 b hv hn d b.found rfl

theorem c36 (b : Bk) (hn : b.say.length < 4294967296) : Ctr Try.prog 36 [DB b] (ordR b) := by
  refine ctr_of_wp hmix Try.func36 m36 rfl ?_
  unfold v36 ordR
  simp -failIfUnchanged (disch := first | omega | (simp <;> omega) | fail) only [go_sem, simprocAttr]
  refine wcall (c53 b hn) ?_
  unfold errB
  cases hcb : checkB b with
  | false =>
    simp -failIfUnchanged (disch := first | omega | (simp <;> omega) | fail) only [go_sem, simprocAttr]
    try simp
  | true =>
    have hv := bv_of hcb
    have hdw := hv.dw
    obtain ⟨n, hdn⟩ : ∃ n : Nat, b.dow = n := ⟨b.dow.toNat, by omega⟩
    have hol : ordL b = srtN (sc b) n := by unfold ordL; rw [hdn]; rfl
    rw [hol]
    have h32 : ∀ d : Nat, Ctr Try.prog 32 [DB b, .int d, IS b.found] (.int (sc b d)) := c32f b hv hn
    unfold DB at h32
    rw [hdn] at h32
    simp -failIfUnchanged (disch := first | omega | (simp <;> omega) | fail) only [go_sem, simprocAttr, hdn]
    refine wp_loop' Nat (fun d => ⟨[(1, .ptr 1 0), (5, .bsl 18 0 1 n false), (6, .int d)], [(18, ⟨(nI (plcK (sc b) n d)).map .int, false⟩), (1, ⟨[.int b.depth, IS b.found, .int n, SL b.say, .int b.pence], false⟩)], [], none⟩) (fun d => d ≤ n) (fun d => n - d) 0 (by simp) (by simp -failIfUnchanged (disch := first | omega | (simp <;> omega) | fail) only [go_sem, simprocAttr, scopes_ints, plcK_0]; try simp) ?_
    intro d hd
    have hd : d ≤ n := hd
    have hpl : (nI (plcK (sc b) n d)).length = n := by rw [nI_len, plcK_len]
    have hpl2 := plcK_len (sc b) n d
    simp -failIfUnchanged (disch := first | omega | (simp <;> omega) | fail) only [go_sem, simprocAttr]
    refine wcond_dec (fun hc => ?_) (fun hc => ?_)
    · have hdl : d < n := by omega
      simp -failIfUnchanged (disch := first | omega | (simp <;> omega) | fail) only [go_sem, simprocAttr]
      refine wp_loop' Nat (fun o => ⟨[(1, .ptr 1 0), (5, .bsl 18 0 1 n false), (6, .int d), (7, .int (rankK (sc b) d o)), (8, .int o)], [(18, ⟨(nI (plcK (sc b) n d)).map .int, false⟩), (1, ⟨[.int b.depth, IS b.found, .int n, SL b.say, .int b.pence], false⟩)], [], none⟩) (fun o => o ≤ n) (fun o => n - o) 0 (by simp) (by simp -failIfUnchanged (disch := first | omega | (simp <;> omega) | fail) only [go_sem, simprocAttr, scopes_ints]; simp [rankK]) ?_
      intro o ho
      have ho : o ≤ n := ho
      simp -failIfUnchanged (disch := first | omega | (simp <;> omega) | fail) only [go_sem, simprocAttr]
      refine wcond_dec (fun hc2 => ?_) (fun hc2 => ?_)
      · have hol2 : o < n := by omega
        have hrk := rankK_le (sc b) d o
        simp -failIfUnchanged (disch := first | omega | (simp <;> omega) | fail) only [go_sem, simprocAttr]
        refine wcall (h32 o) ?_
        simp -failIfUnchanged (disch := first | omega | (simp <;> omega) | fail) only [go_sem, simprocAttr]
        refine wcall (h32 d) ?_
        simp -failIfUnchanged (disch := first | omega | (simp <;> omega) | fail) only [go_sem, simprocAttr]
        have hyes : bfr (sc b) o d → rankK (sc b) d (o + 1) = rankK (sc b) d o + 1 := fun h => by rw [rankK, if_pos h]
        have hno : ¬ bfr (sc b) o d → rankK (sc b) d (o + 1) = rankK (sc b) d o := fun h => by rw [rankK, if_neg h]; rfl
        refine WGd_bool (fun h1 => ?_) (fun h1 => ?_)
        · have h1' : ¬ sc b d < sc b o := by simpa using h1
          simp -failIfUnchanged (disch := first | omega | (simp <;> omega) | fail) only [go_sem, simprocAttr, h1]
          refine WGd_bool (fun h2 => ?_) (fun h2 => ?_)
          · have h2' : sc b o = sc b d := by simpa using h2
            simp -failIfUnchanged (disch := first | omega | (simp <;> omega) | fail) only [go_sem, simprocAttr, h1, h2]
            refine wcond_dec (fun h3 => ?_) (fun h3 => ?_)
            · simp -failIfUnchanged (disch := first | omega | (simp <;> omega) | fail) only [go_sem, simprocAttr]
              refine ⟨o + 1, by dsimp only; omega, by dsimp only; omega, ?_⟩
              dsimp only
              rw [hyes (.inr ⟨h2'.symm, by omega⟩)]
              simp -failIfUnchanged (disch := first | omega | (simp <;> omega) | fail) only [go_sem, simprocAttr, scopes_ints]
              try simp
            · simp -failIfUnchanged (disch := first | omega | (simp <;> omega) | fail) only [go_sem, simprocAttr]
              refine ⟨o + 1, by dsimp only; omega, by dsimp only; omega, ?_⟩
              dsimp only
              rw [hno (fun h => by unfold bfr at h; omega)]
              simp -failIfUnchanged (disch := first | omega | (simp <;> omega) | fail) only [go_sem, simprocAttr, scopes_ints]
              try simp
          · have h2' : ¬ sc b o = sc b d := by simpa using h2
            simp -failIfUnchanged (disch := first | omega | (simp <;> omega) | fail) only [go_sem, simprocAttr, h1, h2]
            refine ⟨o + 1, by dsimp only; omega, by dsimp only; omega, ?_⟩
            dsimp only
            rw [hno (fun h => by unfold bfr at h; omega)]
            simp -failIfUnchanged (disch := first | omega | (simp <;> omega) | fail) only [go_sem, simprocAttr, scopes_ints]
            try simp
        · have h1' : sc b d < sc b o := by simpa using h1
          simp -failIfUnchanged (disch := first | omega | (simp <;> omega) | fail) only [go_sem, simprocAttr, h1]
          refine ⟨o + 1, by dsimp only; omega, by dsimp only; omega, ?_⟩
          dsimp only
          rw [hyes (.inl h1')]
          simp -failIfUnchanged (disch := first | omega | (simp <;> omega) | fail) only [go_sem, simprocAttr, scopes_ints]
          try simp
      · have e : o = n := by omega
        subst e
        have hrl := rank_lt (sc b) o hdl
        have hset : (nI (plcK (sc b) o d)).set (rankK (sc b) d o) ((d : Nat) : Int) = nI (plcK (sc b) o (d + 1)) := by rw [nI_set, plcK_set _ _ _ hdl]
        simp -failIfUnchanged (disch := first | omega | (simp <;> omega) | fail) only [go_sem, simprocAttr, hpl, hset]
        refine ⟨d + 1, by dsimp only; omega, by dsimp only; omega, ?_⟩
        simp -failIfUnchanged (disch := first | omega | (simp <;> omega) | fail) only [go_sem, simprocAttr, scopes_ints]
        try simp
    · have e : d = n := by omega
      subst e
      rw [plcK_n] at hpl ⊢
      simp -failIfUnchanged (disch := first | omega | (simp <;> omega) | fail) only [go_sem, simprocAttr, chunks_ints, hpl, Nat.le_refl]

theorem flr_eq {b : Bk} {n : Nat} (hn : b.dow.toNat = n) {i : Nat} (hi : i < n) : b.pence * max 0 (sc b i) / allS (posL b) = flrI (posL b) b.pence i := by
  unfold flrI
  rw [posL_at b (by omega)]
  rfl
theorem rest_eq {b : Bk} {n : Nat} (hn : b.dow.toNat = n) {i : Nat} (hi : i < n) : b.pence * max 0 (sc b i) % allS (posL b) = restI (posL b) b.pence i := by
  unfold restI
  rw [posL_at b (by omega)]
  rfl
theorem take_nth_succ (r : Nat → Int) (n k : Nat) (hk : k < n) : nI ((srtN r n).take k) ++ [((nth (srtN r n) k : Nat) : Int)] = nI ((srtN r n).take (k + 1)) := by
  rw [take_succ_srt r n k hk]
  simp [nI]

theorem c37 (b : Bk) (hn : b.say.length < 4294967296) : Ctr Try.prog 37 [DB b] (payR b) := by
  refine ctr_of_wp hmix Try.func37 m37 rfl ?_
  unfold v37 payR
  simp -failIfUnchanged (disch := first | omega | (simp <;> omega) | fail) only [go_sem, simprocAttr]
  refine wcall (c53 b hn) ?_
  unfold errB
  cases hcb : checkB b with
  | false =>
    simp -failIfUnchanged (disch := first | omega | (simp <;> omega) | fail) only [go_sem, simprocAttr]
    try simp
  | true =>
    have hv := bv_of hcb
    have hdw := hv.dw
    have hpn := hv.pn
    obtain ⟨n, hdn⟩ : ∃ n : Nat, b.dow = n := ⟨b.dow.toNat, by omega⟩
    have hdn2 : b.dow.toNat = n := by omega
    have h32 : ∀ d : Nat, Ctr Try.prog 32 [DB b, .int d, IS b.found] (.int (sc b d)) := c32f b hv hn
    unfold DB at h32
    rw [hdn] at h32
    have hak : allK b n = allS (posL b) := by rw [← hdn2]; exact allK_dow hv 0
    simp -failIfUnchanged (disch := first | omega | (simp <;> omega) | fail) only [go_sem, simprocAttr, hdn]
    refine wp_loop' Nat (fun i => ⟨[(1, .ptr 1 0), (5, .bsl 22 0 1 n false), (6, .int (allK b i)), (7, .int i)], [(22, ⟨(List.replicate n (0 : Int)).map .int, false⟩), (1, ⟨[.int b.depth, IS b.found, .int n, SL b.say, .int b.pence], false⟩)], [], none⟩) (fun i => i ≤ n) (fun i => n - i) 0 (by simp) (by simp -failIfUnchanged (disch := first | omega | (simp <;> omega) | fail) only [go_sem, simprocAttr]; simp [allK, sumI_nil]) ?_
    intro i hi
    have hi : i ≤ n := hi
    simp -failIfUnchanged (disch := first | omega | (simp <;> omega) | fail) only [go_sem, simprocAttr]
    refine wcond_dec (fun hc => ?_) (fun hc => ?_)
    · have h6 := allK_bd hv hn i
      have h7 := pos_bd hv hn i
      have h8 : pos b i = max 0 (sc b i) := rfl
      rw [h8] at h7
      simp -failIfUnchanged (disch := first | omega | (simp <;> omega) | fail) only [go_sem, simprocAttr]
      refine wcall (h32 i) ?_
      simp -failIfUnchanged (disch := first | omega | (simp <;> omega) | fail) only [go_sem, simprocAttr]
      refine ⟨i + 1, by dsimp only; omega, by dsimp only; omega, ?_⟩
      dsimp only
      rw [allK_succ, h8]
      simp -failIfUnchanged (disch := first | omega | (simp <;> omega) | fail) only [go_sem, simprocAttr, scopes_ints]
      try simp
    · have e : i = n := by omega
      subst e
      rw [hak]
      have hpl := posL_len b
      rw [hdn2] at hpl
      simp -failIfUnchanged (disch := first | omega | (simp <;> omega) | fail) only [go_sem, simprocAttr]
      refine wcond_dec (fun h0 => ?_) (fun h0 => ?_)
      · have hr : remL (posL b) b.pence = List.replicate i 0 := by unfold remL; rw [if_pos h0, hpl]
        rw [hr]
        simp -failIfUnchanged (disch := first | omega | (simp <;> omega) | fail) only [go_sem, simprocAttr, chunks_ints, List.length_replicate]
        try simp
        try rfl
      · have hab := allK_bd hv hn 4
        rw [allK_4 hv] at hab
        have h0' : 0 < allS (posL b) := by omega
        have hnn := posL_nn b
        have hlb := left_bd (posL b) b.pence h0'
        rw [hpl] at hlb
        rename_i n0
        simp -failIfUnchanged (disch := first | omega | (simp <;> omega) | fail) only [go_sem, simprocAttr]
        refine wp_loop' Nat (fun k => ⟨[(1, .ptr 1 0), (5, .bsl 22 0 1 i false), (6, .int (allS (posL b))), (8, .int (lefK (posL b) b.pence k)), (9, .int k)],
          [(22, ⟨(outI (posL b) b.pence k).map .int, false⟩), (1, ⟨[.int b.depth, IS b.found, .int i, SL b.say, .int b.pence], false⟩)], [], none⟩) (fun k => k ≤ i) (fun k => i - k) 0 (by simp) (by simp -failIfUnchanged (disch := first | omega | (simp <;> omega) | fail) only [go_sem, simprocAttr, scopes_ints, outI_0, hpl]; simp [lefK, sumI_nil]) ?_
        intro k hk
        have hk : k ≤ i := hk
        simp -failIfUnchanged (disch := first | omega | (simp <;> omega) | fail) only [go_sem, simprocAttr]
        refine wcond_dec (fun hc2 => ?_) (fun hc2 => ?_)
        · have hlt : k < i := by omega
          have hm := mul_bd hpn (pos_bd hv hn k)
          have h8 : pos b k = max 0 (sc b k) := rfl
          rw [h8] at hm
          have hfe := flr_eq hdn2 hlt
          have hfb := flr_bd hnn hpn.1 h0' (i := k) (by omega)
          have hol := outI_len (posL b) b.pence k
          have hset := outI_set (posL b) b.pence k (by omega)
          have hget := outI_get1 (posL b) b.pence k (by omega)
          have hol2 := outI_len (posL b) b.pence (k + 1)
          have hlb2 := lefK_bd hnn hpn.1 h0' k (by omega)
          have hpi : b.pence * (k : Int) ≤ 999 * 4 := by
            have a : b.pence * (k : Int) ≤ 999 * (k : Int) := Int.mul_le_mul_of_nonneg_right hpn.2 (by omega)
            omega
          simp -failIfUnchanged (disch := first | omega | (simp <;> omega) | fail) only [go_sem, simprocAttr]
          refine wcall (h32 k) ?_
          simp -failIfUnchanged (disch := first | omega | (simp <;> omega) | fail) only [go_sem, simprocAttr, tdiv_nn hm.1, hfe, hol, hset, hget, hol2, hpl]
          refine ⟨k + 1, by dsimp only; omega, by dsimp only; omega, ?_⟩
          dsimp only
          rw [lefK_succ]
          simp -failIfUnchanged (disch := first | omega | (simp <;> omega) | fail) only [go_sem, simprocAttr, scopes_ints]
          try simp
        · have e : k = i := by omega
          subst e
          have hout := outI_n (posL b) b.pence
          rw [hpl] at hout
          have hlf : lefK (posL b) b.pence k = leftI (posL b) b.pence := by
            unfold lefK leftI flrL
            rw [hpl]
          obtain ⟨L, hLL⟩ : ∃ L : Nat, leftI (posL b) b.pence = L := ⟨(leftI (posL b) b.pence).toNat, by omega⟩
          have hrl : remL (posL b) b.pence = remK (posL b) b.pence L := by unfold remL; rw [if_neg h0, hLL]; rfl
          rw [hLL] at hlb
          obtain ⟨C, hC⟩ : ∃ C, srtN (restI (posL b) b.pence) (posL b).length = C := ⟨_, rfl⟩
          have hcl : C.length = k := by rw [← hC, srtN_len, hpl]
          rw [hout, hlf, hLL, ← remK_0]
          simp -failIfUnchanged (disch := first | omega | (simp <;> omega) | fail) only [go_sem, simprocAttr]
          refine wp_loop' Nat (fun j => ⟨[(1, .ptr 1 0), (5, .bsl 22 0 1 k false), (6, .int (allS (posL b))), (8, .int ((L : Int) - j)), (10, .sl 1 ((nI (C.take j)).map .int) (.own 10))],
            [(22, ⟨(remK (posL b) b.pence j).map .int, false⟩), (1, ⟨[.int b.depth, IS b.found, .int k, SL b.say, .int b.pence], false⟩)], [(10, j)], none⟩) (fun j => j ≤ L) (fun j => L - j) 0 (by simp) (by simp -failIfUnchanged (disch := first | omega | (simp <;> omega) | fail) only [go_sem, simprocAttr, scopes_ints]; simp) ?_
          intro j hj
          have hj : j ≤ L := hj
          simp -failIfUnchanged (disch := first | omega | (simp <;> omega) | fail) only [go_sem, simprocAttr]
          refine wcond_dec (fun hc3 => ?_) (fun hc3 => ?_)
          · have hjl : j < L := by omega
            obtain ⟨got, hgot⟩ : ∃ got, C.take j = got := ⟨_, rfl⟩
            have hgl : got.length = j := by rw [← hgot, List.length_take]; omega
            rw [hgot]
            simp -failIfUnchanged (disch := first | omega | (simp <;> omega) | fail) only [go_sem, simprocAttr]
            refine wp_loop' Nat (fun z => ⟨[(1, .ptr 1 0), (5, .bsl 22 0 1 k false), (6, .int (allS (posL b))), (8, .int ((L : Int) - j)), (10, .sl 1 ((nI got).map .int) (.own 10)), (11, .int (pkF (restI (posL b) b.pence) got z).1), (12, .int (pkF (restI (posL b) b.pence) got z).2), (13, .int z)],
              [(22, ⟨(remK (posL b) b.pence j).map .int, false⟩), (1, ⟨[.int b.depth, IS b.found, .int k, SL b.say, .int b.pence], false⟩)], [(10, j)], none⟩) (fun z => z ≤ k) (fun z => k - z) 0 (by simp) (by simp -failIfUnchanged (disch := first | omega | (simp <;> omega) | fail) only [go_sem, simprocAttr, scopes_ints]; simp [pkF]) ?_
            intro z hz
            have hz : z ≤ k := hz
            simp -failIfUnchanged (disch := first | omega | (simp <;> omega) | fail) only [go_sem, simprocAttr]
            refine wcond_dec (fun hc4 => ?_) (fun hc4 => ?_)
            · have hzl : z < k := by omega
              have hm := mul_bd hpn (pos_bd hv hn z)
              have h8 : pos b z = max 0 (sc b z) := rfl
              rw [h8] at hm
              have hre := rest_eq hdn2 hzl
              have h59 := c59 (nI got) z (by simp; omega)
              simp only [nI_mem] at h59
              have hps : pkF (restI (posL b) b.pence) got (z + 1) = pk1 (restI (posL b) b.pence) got (pkF (restI (posL b) b.pence) got z) z := rfl
              simp -failIfUnchanged (disch := first | omega | (simp <;> omega) | fail) only [go_sem, simprocAttr]
              refine wcall (h32 z) ?_
              simp -failIfUnchanged (disch := first | omega | (simp <;> omega) | fail) only [go_sem, simprocAttr, tmod_nn hm.1, hre]
              refine wcall h59 ?_
              by_cases hin : z ∈ got
              · rw [pk1, if_neg (fun h => h.1 hin)] at hps
                rw [decide_eq_true hin]
                simp -failIfUnchanged (disch := first | omega | (simp <;> omega) | fail) only [go_sem, simprocAttr]
                refine ⟨z + 1, by dsimp only; omega, by dsimp only; omega, ?_⟩
                dsimp only
                rw [hps]
                simp -failIfUnchanged (disch := first | omega | (simp <;> omega) | fail) only [go_sem, simprocAttr, scopes_ints]
                try simp
              · rw [decide_eq_false hin]
                simp -failIfUnchanged (disch := first | omega | (simp <;> omega) | fail) only [go_sem, simprocAttr]
                refine wcond_dec (fun h5 => ?_) (fun h5 => ?_)
                · rw [pk1, if_pos ⟨hin, h5⟩] at hps
                  simp -failIfUnchanged (disch := first | omega | (simp <;> omega) | fail) only [go_sem, simprocAttr]
                  refine ⟨z + 1, by dsimp only; omega, by dsimp only; omega, ?_⟩
                  dsimp only
                  rw [hps]
                  simp -failIfUnchanged (disch := first | omega | (simp <;> omega) | fail) only [go_sem, simprocAttr, scopes_ints]
                  try simp
                · rw [pk1, if_neg (fun h => h5 h.2)] at hps
                  simp -failIfUnchanged (disch := first | omega | (simp <;> omega) | fail) only [go_sem, simprocAttr]
                  refine ⟨z + 1, by dsimp only; omega, by dsimp only; omega, ?_⟩
                  dsimp only
                  rw [hps]
                  simp -failIfUnchanged (disch := first | omega | (simp <;> omega) | fail) only [go_sem, simprocAttr, scopes_ints]
                  try simp
            · have e : z = k := by omega
              subst e
              have hps : pkF (restI (posL b) b.pence) got z = (((nth C j : Nat) : Int), restI (posL b) b.pence (nth C j)) := by
                rw [← hgot, ← hC, ← hpl]
                exact pk_srt _ _ _ (by omega) (cut_pos h0' (by omega))
              have hkl := remK_len (posL b) b.pence j
              rw [hpl] at hkl
              have hct : nth C j < (posL b).length := by rw [← hC]; exact srtN_nth _ _ (by omega)
              have hrk := remK_at (posL b) b.pence j hct
              have hfb := flr_bd hnn hpn.1 h0' hct
              have hrb : 0 ≤ (remK (posL b) b.pence j)[nth C j]?.getD default ∧ (remK (posL b) b.pence j)[nth C j]?.getD default ≤ 1000 := by
                show 0 ≤ at0 _ _ ∧ at0 _ _ ≤ 1000
                rw [hrk]
                split <;> omega
              have hset := remK_succ (posL b) b.pence j (by omega)
              have hCc : cutL (posL b) b.pence = C := hC
              rw [hCc] at hset
              have htn : nI got ++ [((nth C j : Nat) : Int)] = nI (C.take (j + 1)) := by
                rw [← hgot, ← hC]
                exact take_nth_succ _ _ _ (by omega)
              rw [hpl] at hct
              rw [hps]
              generalize nth C j = c at *
              simp -failIfUnchanged (disch := first | omega | (simp <;> omega) | fail) only [go_sem, simprocAttr, hkl, hgl]
              refine ⟨j + 1, by dsimp only; omega, by dsimp only; omega, ?_⟩
              dsimp only
              rw [hset, ← htn]
              simp -failIfUnchanged (disch := first | omega | (simp <;> omega) | fail) only [go_sem, simprocAttr, scopes_ints]
              try simp
              try omega
          · have e : j = L := by omega
            subst e
            rw [hrl]
            have hkl := remK_len (posL b) b.pence j
            have hle : (k ≤ (remK (posL b) b.pence j).length) = True := eq_true (by omega)
            simp -failIfUnchanged (disch := first | omega | (simp <;> omega) | fail) only [go_sem, simprocAttr, chunks_ints, hle]

theorem c6 (b : Bk) (d : Int) : Ctr Try.prog 6 [DB b, .int d] (.bool true) := by
  refine ctr_of_wp hmix Try.func6 m6 rfl ?_
  unfold v6
  simp -failIfUnchanged (disch := first | omega | (simp <;> omega) | fail) only [go_sem, simprocAttr]
  refine wcall (c33 b) ?_
  cases hh : hugeB b with
  | true =>
    simp -failIfUnchanged (disch := first | omega | (simp <;> omega) | fail) only [go_sem, simprocAttr]
    refine wcall c17 ?_
    simp -failIfUnchanged (disch := first | omega | (simp <;> omega) | fail) only [go_sem, simprocAttr]
  | false =>
    obtain ⟨h1, h2⟩ := huge_false hh
    have hlo : (if checkB b then nI (ordL b) else []).length < 4294967296 := by
      split
      · rename_i hc
        have hv := bv_of hc
        have := hv.dw
        rw [nI_len]
        unfold ordL
        rw [srtN_len]
        omega
      · simp
    have hlp : (if checkB b then remL (posL b) b.pence else []).length < 4294967296 := by
      split
      · rename_i hc
        have hv := bv_of hc
        have := hv.dw
        rw [remL_len, posL_len]
        omega
      · simp
    have k1 := c23 b (by omega) d
    have k2 := c34 b (by omega) d
    have k3 := c35 b (by omega)
    have k4 := c36 b (by omega)
    have k5 := c31 b (by omega)
    have k6 := c37 b (by omega)
    unfold scoR at k1 k2
    unfold ordR at k3 k4
    unfold payR at k5 k6
    generalize (if dE b d = 0 then sco b d b.found else 0) = u1 at *
    generalize dE b d = u2 at *
    generalize (if checkB b then nI (ordL b) else []) = l1 at *
    generalize (if checkB b then remL (posL b) b.pence else []) = l2 at *
    generalize errB b = u3 at *
    simp -failIfUnchanged (disch := first | omega | (simp <;> omega) | fail) only [go_sem, simprocAttr]
    refine wcall (c22 b (by omega) (by omega)) ?_
    simp -failIfUnchanged (disch := first | omega | (simp <;> omega) | fail) only [go_sem, simprocAttr]
    refine wcall k1 ?_
    simp -failIfUnchanged (disch := first | omega | (simp <;> omega) | fail) only [go_sem, simprocAttr]
    refine wcall k2 ?_
    simp -failIfUnchanged (disch := first | omega | (simp <;> omega) | fail) only [go_sem, simprocAttr]
    refine wcall k3 ?_
    simp -failIfUnchanged (disch := first | omega | (simp <;> omega) | fail) only [go_sem, simprocAttr]
    refine wcall k4 ?_
    simp -failIfUnchanged (disch := first | omega | (simp <;> omega) | fail) only [go_sem, simprocAttr]
    refine wcall k5 ?_
    simp -failIfUnchanged (disch := first | omega | (simp <;> omega) | fail) only [go_sem, simprocAttr]
    refine wcall k6 ?_
    simp -failIfUnchanged (disch := first | omega | (simp <;> omega) | fail) only [go_sem, simprocAttr, eq_self]
    refine wcall (c38 l1 l1 hlo) ?_
    simp -failIfUnchanged (disch := first | omega | (simp <;> omega) | fail) only [go_sem, simprocAttr, eq_self]
    refine wcall (c38 l2 l2 hlp) ?_
    simp -failIfUnchanged (disch := first | omega | (simp <;> omega) | fail) only [go_sem, simprocAttr, eq_self]
    refine wcall (c39 b (by omega) (by omega)) ?_
    simp -failIfUnchanged (disch := first | omega | (simp <;> omega) | fail) only [go_sem, simprocAttr]
    refine wcall c17 ?_
    simp -failIfUnchanged (disch := first | omega | (simp <;> omega) | fail) only [go_sem, simprocAttr]

end Go.Proofs.Ytmcfibpeenhcnaa


/- DowsersPurse. -/
set_option linter.unusedSimpArgs false
set_option linter.unusedVariables false
set_option linter.unnecessarySimpa false
namespace Go.Proofs.Ytmcfibpeenhcnaa
open Go Go.V

theorem rem_one {s : List Int} {f : Int} (h0 : 0 < allS s) {i : Nat} (hi : i < s.length) : at0 (remL s f) i = flrI s f i ∨ (at0 (remL s f) i = flrI s f i + 1 ∧ 0 < restI s f i) := by
  rw [remL_at s f hi, if_neg (by omega)]
  by_cases h : i ∈ (cutL s f).take (leftI s f).toNat
  · rw [if_pos h]
    refine .inr ⟨rfl, ?_⟩
    have hlb := left_bd s f h0
    obtain ⟨a, ha, e⟩ := srtN_ex (restI s f) s.length hi
    have h2 : a < (leftI s f).toNat := by
      rw [← take_mem (restI s f) s.length _ (by omega) ha, e]
      exact h
    have := cut_pos (s := s) (f := f) h0 (k := a) (by omega)
    rwa [e] at this
  · rw [if_neg h]
    exact .inl (by omega)

theorem rem_mono {s : List Int} {f : Int} (hf : 0 ≤ f) (h0 : 0 < allS s) {i j : Nat} (hi : i < s.length) (hj : j < s.length) (h : at0 s j ≤ at0 s i) (hz : at0 s i = at0 s j → restI s f j = 0) : at0 (remL s f) j ≤ at0 (remL s f) i := by
  have hfl : flrI s f j ≤ flrI s f i := Int.ediv_le_ediv h0 (Int.mul_le_mul_of_nonneg_left h hf)
  rcases Int.lt_or_eq_of_le hfl with h1 | h1
  · have a := rem_one (f := f) h0 hi
    have b := rem_one (f := f) h0 hj
    omega
  · have hz0 : ¬ allS s = 0 := by omega
    rw [remL_at s f hi, remL_at s f hj]
    simp only [hz0, if_false]
    by_cases hm : j ∈ (cutL s f).take (leftI s f).toNat
    · rw [if_pos hm]
      have hlb := left_bd s f h0
      have hpos : 0 < restI s f j := by
        obtain ⟨a, ha, e⟩ := srtN_ex (restI s f) s.length hj
        have h2 : a < (leftI s f).toNat := by
          rw [← take_mem (restI s f) s.length _ (by omega) ha, e]
          exact hm
        have := cut_pos (s := s) (f := f) h0 (k := a) (by omega)
        rwa [e] at this
      have hne : at0 s i ≠ at0 s j := fun e => by have := hz e; omega
      have hlt : restI s f j < restI s f i := by
        have e1 := Int.mul_ediv_add_emod (f * at0 s i) (allS s)
        have e2 := Int.mul_ediv_add_emod (f * at0 s j) (allS s)
        have hfp : 0 < f := by
          apply Classical.byContradiction
          intro hno
          have : f = 0 := by omega
          unfold restI at hpos
          rw [this, Int.zero_mul] at hpos
          simp at hpos
        have e3 : f * at0 s j < f * at0 s i := Int.mul_lt_mul_of_pos_left (by omega) hfp
        unfold flrI at h1
        rw [h1] at e2
        unfold restI
        omega
      have := take_bfr (restI s f) s.length (leftI s f).toNat (by omega) hi hj (.inl hlt) hm
      unfold cutL
      rw [if_pos this]
      omega
    · rw [if_neg hm]
      split <;> omega

theorem rem_bds {s : List Int} {f : Int} (hs : ∀ i, i < s.length → 0 ≤ at0 s i) (hf : 0 ≤ f) (h0 : 0 ≤ allS s) {i : Nat} (hi : i < s.length) : 0 ≤ at0 (remL s f) i ∧ at0 (remL s f) i ≤ f := by
  by_cases h : allS s = 0
  · rw [remL_at s f hi, if_pos h]
    omega
  · have h0' : 0 < allS s := by omega
    have hnn : ∀ j, j < s.length → 0 ≤ at0 (remL s f) j := fun j hj => by
      have a := rem_one (f := f) h0' hj
      have b := flr_bd hs hf h0' hj
      omega
    refine ⟨hnn i hi, ?_⟩
    have h1 := share_le (s := remL s f) (fun j hj => hnn j (by rwa [remL_len] at hj)) (i := i) (by rwa [remL_len])
    have h2 := remL_sum s f h0'
    unfold allS at h1
    omega

theorem c25 (b : Bk) : Ctr Try.prog 25 [DB b] (.bool (!hugeB b && checkB b)) := by
  refine ctr_of_wp hmix Try.func25 m25 rfl ?_
  unfold v25
  simp -failIfUnchanged (disch := first | omega | (simp <;> omega) | fail) only [go_sem, simprocAttr]
  refine wcall (c33 b) ?_
  cases hh : hugeB b with
  | true => simp -failIfUnchanged (disch := first | omega | (simp <;> omega) | fail) only [go_sem, simprocAttr]
  | false =>
    obtain ⟨h1, h2⟩ := huge_false hh
    simp -failIfUnchanged (disch := first | omega | (simp <;> omega) | fail) only [go_sem, simprocAttr]
    refine wcall (c53 b (by omega)) ?_
    unfold errB
    cases checkB b with
    | true => simp -failIfUnchanged (disch := first | omega | (simp <;> omega) | fail) only [go_sem, simprocAttr]; try simp
    | false => simp -failIfUnchanged (disch := first | omega | (simp <;> omega) | fail) only [go_sem, simprocAttr]; try simp

/-- The sum of the first k. -/
theorem sum_take_succ {l : List Int} {k : Nat} (h : k < l.length) : sumI (l.take (k + 1)) = sumI (l.take k) + at0 l k := by
  rw [List.take_add_one, sumI_app, List.getElem?_eq_getElem h]
  simp [at0, h, sumI_cons, sumI_nil]
theorem sum_take_bd {l : List Int} {B : Int} (h : ∀ i, i < l.length → 0 ≤ at0 l i ∧ at0 l i ≤ B) : ∀ k, k ≤ l.length → 0 ≤ sumI (l.take k) ∧ sumI (l.take k) ≤ B * k
  | 0, _ => by simp [sumI_nil]
  | k + 1, hk => by
    have h1 := sum_take_bd h k (by omega)
    have h2 := h k (by omega)
    have e : B * ((k + 1 : Nat) : Int) = B * k + B := by rw [Int.natCast_succ, Int.mul_add, Int.mul_one]
    rw [sum_take_succ (by omega)]
    omega

theorem c5 (b : Bk) (one other : Int) : Ctr Try.prog 5 [DB b, .int one, .int other] (.bool true) := by
  refine ctr_of_wp hmix Try.func5 m5 rfl ?_
  unfold v5
  simp -failIfUnchanged (disch := first | omega | (simp <;> omega) | fail) only [go_sem, simprocAttr]
  refine wcall (c25 b) ?_
  cases hr : (!hugeB b && checkB b) with
  | false =>
    simp -failIfUnchanged (disch := first | omega | (simp <;> omega) | fail) only [go_sem, simprocAttr]
    refine wcall c17 ?_
    simp -failIfUnchanged (disch := first | omega | (simp <;> omega) | fail) only [go_sem, simprocAttr]
  | true =>
    simp only [Bool.and_eq_true, Bool.not_eq_true'] at hr
    obtain ⟨h1, h2⟩ := huge_false hr.1
    have hcb := hr.2
    have hv := bv_of hcb
    have hdw := hv.dw
    have hpn := hv.pn
    have hn : b.say.length < 4294967296 := by omega
    simp -failIfUnchanged (disch := first | omega | (simp <;> omega) | fail) only [go_sem, simprocAttr]
    refine wcall (c16 b one) ?_
    cases ho : within one 0 (w64 (b.dow - 1)) with
    | false =>
      simp -failIfUnchanged (disch := first | omega | (simp <;> omega) | fail) only [go_sem, simprocAttr]
      refine wcall c17 ?_
      simp -failIfUnchanged (disch := first | omega | (simp <;> omega) | fail) only [go_sem, simprocAttr]
    | true =>
      simp -failIfUnchanged (disch := first | omega | (simp <;> omega) | fail) only [go_sem, simprocAttr]
      refine wcall (c16 b other) ?_
      cases ho2 : within other 0 (w64 (b.dow - 1)) with
      | false =>
        simp -failIfUnchanged (disch := first | omega | (simp <;> omega) | fail) only [go_sem, simprocAttr]
        refine wcall c17 ?_
        simp -failIfUnchanged (disch := first | omega | (simp <;> omega) | fail) only [go_sem, simprocAttr]
      | true =>
        have d1 := dow_in hv ho
        have d2 := dow_in hv ho2
        obtain ⟨u, rfl⟩ : ∃ u : Nat, one = u := ⟨one.toNat, by omega⟩
        obtain ⟨z, rfl⟩ : ∃ z : Nat, other = z := ⟨other.toNat, by omega⟩
        obtain ⟨n, hdn⟩ : ∃ n : Nat, b.dow = n := ⟨b.dow.toNat, by omega⟩
        have hdn2 : b.dow.toNat = n := by omega
        have k1 := c31 b hn
        unfold payR errB at k1
        rw [hcb] at k1
        simp only [if_true] at k1
        have hpl := posL_len b
        rw [hdn2] at hpl
        have hll := remL_len (posL b) b.pence
        rw [hpl] at hll
        have hnn := posL_nn b
        have hab := allK_bd hv hn 4
        rw [allK_4 hv] at hab
        have hbd : ∀ i, i < n → 0 ≤ at0 (remL (posL b) b.pence) i ∧ at0 (remL (posL b) b.pence) i ≤ b.pence := fun i hi => rem_bds hnn hpn.1 hab.1 (by omega)
        have h32 : ∀ d : Nat, Ctr Try.prog 32 [DB b, .int d, IS b.found] (.int (sc b d)) := c32f b hv hn
        unfold DB at h32 k1
        rw [hdn] at h32 k1
        have hak : allK b n = allS (posL b) := by rw [← hdn2]; exact allK_dow hv 0
        obtain ⟨l, hl⟩ : ∃ l, remL (posL b) b.pence = l := ⟨_, rfl⟩
        rw [hl] at k1 hll hbd
        simp -failIfUnchanged (disch := first | omega | (simp <;> omega) | fail) only [go_sem, simprocAttr, hdn]
        refine wcall k1 ?_
        have e1 : decide (¬ (l.length : Int) = n) = false := by simp; omega
        simp -failIfUnchanged (disch := first | omega | (simp <;> omega) | fail) only [go_sem, simprocAttr, e1]
        refine wp_loop' Nat (fun i => ⟨[(1, .int u), (2, .int z), (3, .ptr 3 0), (7, IS l), (9, .int (sumI (l.take i))), (10, .int (allK b i)), (11, .int i)], [(3, ⟨[.int b.depth, IS b.found, .int n, SL b.say, .int b.pence], false⟩)], [], none⟩) (fun i => i ≤ n) (fun i => n - i) 0 (by simp) (by simp -failIfUnchanged (disch := first | omega | (simp <;> omega) | fail) only [go_sem, simprocAttr]; simp [allK, sumI_nil]) ?_
        intro i hi
        have hi : i ≤ n := hi
        simp -failIfUnchanged (disch := first | omega | (simp <;> omega) | fail) only [go_sem, simprocAttr]
        refine wcond_dec (fun hc => ?_) (fun hc => ?_)
        · have hlt : i < n := by omega
          have b1 := hbd i hlt
          have b1' : 0 ≤ l[i]?.getD default ∧ l[i]?.getD default ≤ b.pence := b1
          have b2 := sum_take_bd (l := l) (B := b.pence) (fun j hj => hbd j (by omega)) i (by omega)
          have b3 : b.pence * (i : Int) ≤ 999 * 4 := by
            have a : b.pence * (i : Int) ≤ 999 * (i : Int) := Int.mul_le_mul_of_nonneg_right hpn.2 (by omega)
            omega
          have h6 := allK_bd hv hn i
          have h7 := pos_bd hv hn i
          have h8 : pos b i = max 0 (sc b i) := rfl
          rw [h8] at h7
          have e2 : decide (l[i]?.getD default < 0) = false := decide_eq_false (by omega)
          have e3 : decide (b.pence < l[i]?.getD default) = false := decide_eq_false (by omega)
          simp -failIfUnchanged (disch := first | omega | (simp <;> omega) | fail) only [go_sem, simprocAttr, e2, e3]
          refine wcall (h32 i) ?_
          simp -failIfUnchanged (disch := first | omega | (simp <;> omega) | fail) only [go_sem, simprocAttr]
          refine ⟨i + 1, by dsimp only; omega, by dsimp only; omega, ?_⟩
          dsimp only
          rw [allK_succ, h8, sum_take_succ (by omega)]
          simp -failIfUnchanged (disch := first | omega | (simp <;> omega) | fail) only [go_sem, simprocAttr]
          try simp
        · have e : i = n := by omega
          subst e
          have e4 : l.take i = l := List.take_of_length_le (by omega)
          rw [hak, e4]
          simp -failIfUnchanged (disch := first | omega | (simp <;> omega) | fail) only [go_sem, simprocAttr]
          refine wcond_dec (fun h0 => ?_) (fun h0 => ?_)
          · have hs0 : sumI l = 0 := by
              rw [← hl]
              unfold remL
              rw [if_pos h0, sumI_rep]
            simp -failIfUnchanged (disch := first | omega | (simp <;> omega) | fail) only [go_sem, simprocAttr, hs0, eq_self]
            refine wcall c17 ?_
            simp -failIfUnchanged (disch := first | omega | (simp <;> omega) | fail) only [go_sem, simprocAttr]
          · have h0' : 0 < allS (posL b) := by omega
            have hsum : sumI l = b.pence := by rw [← hl]; exact remL_sum _ _ h0'
            have hm := mul_bd hpn (pos_bd hv hn u)
            have h8 : pos b u = max 0 (sc b u) := rfl
            have hpu := posL_at b (i := u) (by omega)
            have hpz := posL_at b (i := z) (by omega)
            have hone := rem_one (f := b.pence) h0' (i := u) (by omega)
            rw [hl] at hone
            have hone' : l[u]?.getD default = flrI (posL b) b.pence u ∨ (l[u]?.getD default = flrI (posL b) b.pence u + 1 ∧ 0 < restI (posL b) b.pence u) := hone
            have hsu : 0 < restI (posL b) b.pence u → 0 < sc b u := by
              intro h
              unfold restI at h
              rw [hpu, h8] at h
              apply Classical.byContradiction
              intro hno
              rw [show max 0 (sc b u) = 0 by omega] at h
              simp at h
            have hmono : sc b z < sc b u → l[z]?.getD default ≤ l[u]?.getD default := by
              intro h
              have := rem_mono (f := b.pence) (s := posL b) hpn.1 h0' (i := u) (j := z) (by omega) (by omega) (by rw [hpu, hpz]; unfold pos; omega) (by
                rw [hpu, hpz]
                intro e
                unfold pos at e
                unfold restI
                rw [hpz]
                unfold pos
                rw [show max 0 (sc b z) = 0 by omega]
                simp)
              rw [hl] at this
              exact this
            have hfe := flr_eq hdn2 (i := u) (by omega)
            have hfb := flr_bd hnn hpn.1 h0' (i := u) (by omega)
            rw [h8] at hm
            simp -failIfUnchanged (disch := first | omega | (simp <;> omega) | fail) only [go_sem, simprocAttr]
            refine wcall (h32 u) ?_
            simp -failIfUnchanged (disch := first | omega | (simp <;> omega) | fail) only [go_sem, simprocAttr]
            refine wcall (h32 z) ?_
            simp -failIfUnchanged (disch := first | omega | (simp <;> omega) | fail) only [go_sem, simprocAttr, tdiv_nn hm.1, hfe, hsum, eq_self]
            refine WGd_bool (fun h4 => ?_) (fun h4 => ?_)
            · have h4' : ¬ sc b u ≤ sc b z := by simpa using h4
              have e5 : decide (l[z]?.getD default ≤ l[u]?.getD default) = true := decide_eq_true (hmono (by omega))
              simp -failIfUnchanged (disch := first | omega | (simp <;> omega) | fail) only [go_sem, simprocAttr, h4, e5]
              refine WGd_bool (fun h5 => ?_) (fun h5 => ?_)
              · have h5' : ¬ l[u]?.getD default = flrI (posL b) b.pence u := by simpa using h5
                have h6 := hone'.resolve_left h5'
                have e6 : decide (l[u]?.getD default = flrI (posL b) b.pence u + 1) = true := decide_eq_true h6.1
                have e7 : decide (0 < sc b u) = true := decide_eq_true (hsu h6.2)
                simp -failIfUnchanged (disch := first | omega | (simp <;> omega) | fail) only [go_sem, simprocAttr, h4, h5, e6, e7]
                refine wcall c17 ?_
                simp -failIfUnchanged (disch := first | omega | (simp <;> omega) | fail) only [go_sem, simprocAttr]
              · simp -failIfUnchanged (disch := first | omega | (simp <;> omega) | fail) only [go_sem, simprocAttr, h4, h5]
                refine wcall c17 ?_
                simp -failIfUnchanged (disch := first | omega | (simp <;> omega) | fail) only [go_sem, simprocAttr]
            · simp -failIfUnchanged (disch := first | omega | (simp <;> omega) | fail) only [go_sem, simprocAttr, h4]
              refine WGd_bool (fun h5 => ?_) (fun h5 => ?_)
              · have h5' : ¬ l[u]?.getD default = flrI (posL b) b.pence u := by simpa using h5
                have h6 := hone'.resolve_left h5'
                have e6 : decide (l[u]?.getD default = flrI (posL b) b.pence u + 1) = true := decide_eq_true h6.1
                have e7 : decide (0 < sc b u) = true := decide_eq_true (hsu h6.2)
                simp -failIfUnchanged (disch := first | omega | (simp <;> omega) | fail) only [go_sem, simprocAttr, h4, h5, e6, e7]
                refine wcall c17 ?_
                simp -failIfUnchanged (disch := first | omega | (simp <;> omega) | fail) only [go_sem, simprocAttr]
              · simp -failIfUnchanged (disch := first | omega | (simp <;> omega) | fail) only [go_sem, simprocAttr, h4, h5]
                refine wcall c17 ?_
                simp -failIfUnchanged (disch := first | omega | (simp <;> omega) | fail) only [go_sem, simprocAttr]

end Go.Proofs.Ytmcfibpeenhcnaa


/- Dug; DowsersGuess. -/
set_option linter.unusedSimpArgs false
set_option linter.unusedVariables false
set_option linter.unnecessarySimpa false
namespace Go.Proofs.Ytmcfibpeenhcnaa
open Go Go.V

theorem flat_ints {l : List Int} : flat (l.map AV.int) = l.map .int := by
  induction l with
  | nil => rfl
  | cons x r ih => simp only [List.map_cons, flat, ih]; rfl
attribute [go_sem] flat_ints

end Go.Proofs.Ytmcfibpeenhcnaa


/- DowsersLess. -/
set_option linter.unusedSimpArgs false
set_option linter.unusedVariables false
set_option linter.unnecessarySimpa false
namespace Go.Proofs.Ytmcfibpeenhcnaa
open Go Go.V

end Go.Proofs.Ytmcfibpeenhcnaa


/- One more saying. -/
set_option linter.unusedSimpArgs false
set_option linter.unusedVariables false
set_option linter.unnecessarySimpa false
namespace Go.Proofs.Ytmcfibpeenhcnaa
open Go Go.V

/-- A saying put into its place. -/
def insS (x : Sy) : List Sy → List Sy
  | [] => [x]
  | y :: r => if bef x y = true then x :: y :: r else y :: insS x r
theorem insS_len (x : Sy) : ∀ l, (insS x l).length = l.length + 1
  | [] => rfl
  | y :: r => by
    rw [insS]
    split
    · rfl
    · rw [List.length_cons, insS_len x r, List.length_cons]

/-- A book with one more saying, on a place of its own. -/
abbrev witB (b : Bk) (d lo hi f : Int) : Bk := { b with found := b.found ++ [f], say := insS ⟨d, (b.found.length : Int), lo, hi⟩ b.say }
def witO (b : Bk) (d lo hi f : Int) : Bool := checkB (witB b d lo hi f) && decide (¬ f = 0)

def mdQ : List Sy → VM
  | [] => .full
  | _ :: _ => .own 53
def tkQ : List Sy → TkL
  | [] => []
  | _ :: r => [(53, r.length + 1)]
theorem mdQ_n : mdQ [] = .full := rfl
theorem mdQ_c {y : Sy} {r : List Sy} : mdQ (y :: r) = .own 53 := rfl
theorem tkQ_n : tkQ [] = [] := rfl
theorem tkQ_c {y : Sy} {r : List Sy} : tkQ (y :: r) = [(53, r.length + 1)] := rfl
theorem c30 (b : Bk) (h1 : b.found.length ≤ 1000000) (h2 : b.say.length ≤ 1000000) (d lo hi f : Int) : Ctr Try.prog 30 [DB b, .int d, .int lo, .int hi, .int f] (.tup [DB (witB b d lo hi f), .bool (witO b d lo hi f)]) := by
  refine ctr_of_wp hmix Try.func30 m30g rfl ?_
  unfold v30g
  simp -failIfUnchanged (disch := first | omega | (simp <;> omega) | fail) only [go_sem, simprocAttr]
  refine wcall_in hmix Try.func22 m22f rfl ?_
  unfold v22f
  simp -failIfUnchanged (disch := first | omega | (simp <;> omega) | fail) only [go_sem, simprocAttr]
  refine wopsN [K 1 0 1] ?_
  have e1 : b.found.map AV.int ++ [.int f] = (b.found ++ [f]).map .int := by simp
  have e2 : (b.found ++ [f]).length = b.found.length + 1 := by simp
  simp -failIfUnchanged (disch := first | omega | (simp <;> omega) | fail) only [go_sem, simprocAttr, e1, e2, chunks_ints, Nat.le_refl]
  obtain ⟨x, hx⟩ : ∃ x : Sy, ⟨d, (b.found.length : Int), lo, hi⟩ = x := ⟨_, rfl⟩
  have x1 : x.d = d := by rw [← hx]
  have x2 : x.p = (b.found.length : Int) := by rw [← hx]
  have x3 : x.lo = lo := by rw [← hx]
  have x4 : x.hi = hi := by rw [← hx]
  have hSY : AV.agg [.int d, .int (b.found.length : Int), .int lo, .int hi] = SY x := by unfold SY; rw [x1, x2, x3, x4]
  have hfl2 : (b.found ++ [f]).length ≤ 4294967295 := by simp; omega
  have hwit : witB b d lo hi f = { b with found := b.found ++ [f], say := insS x b.say } := by rw [← hx]
  rw [hwit]
  obtain ⟨F, hF⟩ : ∃ F, b.found ++ [f] = F := ⟨_, rfl⟩
  rw [hF] at hwit hfl2 ⊢
  refine wp_loop' (Nat × Bool × List Sy) (fun st => ⟨[(4, .int f), (5, .ptr 5 0), (10, .ptr 10 0), (12, .ptr 12 0), (13, .bool st.2.1), (14, .int st.1)], [(12, ⟨[.int x.d, .int x.p, .int x.lo, .int x.hi], false⟩), (10, ⟨[.int b.depth, IS F, .int b.dow, .sl 4 (st.2.2.map SY) (mdQ st.2.2), .int b.pence], false⟩), (5, ⟨[.int b.depth, IS b.found, .int b.dow, SL b.say, .int b.pence], false⟩)], tkQ st.2.2, none⟩)
    (fun st => st.1 ≤ b.say.length ∧ st.2.2.length ≤ 2 * st.1 ∧ (st.2.1 = false → insS x b.say = st.2.2 ++ insS x (b.say.drop st.1)) ∧ (st.2.1 = true → insS x b.say = st.2.2 ++ b.say.drop st.1)) (fun st => b.say.length - st.1) (0, false, []) ⟨by simp, by simp, fun _ => by simp, fun h => by cases h⟩ (by simp -failIfUnchanged (disch := first | omega | (simp <;> omega) | fail) only [go_sem, simprocAttr, x1, x2, x3, x4, mdQ_n, tkQ_n]; try simp) ?_
  rintro ⟨i, pt, o⟩ ⟨hii, hol, hp1, hp2⟩
  dsimp only at hii hol hp1 hp2 ⊢
  simp -failIfUnchanged (disch := first | omega | (simp <;> omega) | fail) only [go_sem, simprocAttr]
  refine wcond_dec (fun hc => ?_) (fun hc => ?_)
  · have hlt : i < b.say.length := by omega
    obtain ⟨y, hy⟩ : ∃ y, b.say[i]? = some y := ⟨b.say[i], by simp [hlt]⟩
    have hdr : b.say.drop i = y :: b.say.drop (i + 1) := by
      rw [List.drop_eq_getElem_cons hlt]
      congr 1
      rw [List.getElem?_eq_getElem hlt] at hy
      exact Option.some.inj hy
    rw [hdr] at hp1 hp2
    cases pt with
    | true =>
      have hp2 := hp2 rfl
      cases o with
      | nil =>
        simp -failIfUnchanged (disch := first | omega | (simp <;> omega) | fail) only [go_sem, simprocAttr, hy, mdQ_n, tkQ_n]
        refine ⟨(i + 1, true, [y]), ⟨by dsimp only; omega, by simp only [List.length_cons, List.length_nil]; omega, (fun h => by cases h), fun _ => by simpa using hp2⟩, by dsimp only; omega, ?_⟩
        simp -failIfUnchanged (disch := first | omega | (simp <;> omega) | fail) only [go_sem, simprocAttr, mdQ_c, tkQ_c]
        try simp
      | cons z r =>
        have hol' : r.length + 1 ≤ 2 * i := by simpa using hol
        simp -failIfUnchanged (disch := first | omega | (simp <;> omega) | fail) only [go_sem, simprocAttr, hy, mdQ_c, tkQ_c]
        refine ⟨(i + 1, true, z :: r ++ [y]), ⟨by dsimp only; omega, by simp only [List.length_append, List.length_cons, List.length_nil]; omega, (fun h => by cases h), fun _ => by rw [hp2]; simp⟩, by dsimp only; omega, ?_⟩
        simp -failIfUnchanged (disch := first | omega | (simp <;> omega) | fail) only [go_sem, simprocAttr, mdQ_c, tkQ_c]
        try simp
    | false =>
      have hp1 := hp1 rfl
      rw [insS] at hp1
      cases hb : bef x y with
      | true =>
        rw [if_pos hb] at hp1
        cases o with
        | nil =>
          simp -failIfUnchanged (disch := first | omega | (simp <;> omega) | fail) only [go_sem, simprocAttr, hy, mdQ_n, tkQ_n]
          refine wcall (c74 x y) ?_
          rw [hb]
          simp -failIfUnchanged (disch := first | omega | (simp <;> omega) | fail) only [go_sem, simprocAttr, hy, mdQ_n, tkQ_n]
          refine ⟨(i + 1, true, [x, y]), ⟨by dsimp only; omega, by simp only [List.length_append, List.length_cons, List.length_nil]; omega, (fun h => by cases h), fun _ => by rw [hp1]; simp⟩, by dsimp only; omega, ?_⟩
          simp -failIfUnchanged (disch := first | omega | (simp <;> omega) | fail) only [go_sem, simprocAttr, mdQ_c, tkQ_c]
          try simp
        | cons z r =>
          have hol' : r.length + 1 ≤ 2 * i := by simpa using hol
          simp -failIfUnchanged (disch := first | omega | (simp <;> omega) | fail) only [go_sem, simprocAttr, hy, mdQ_c, tkQ_c]
          refine wcall (c74 x y) ?_
          rw [hb]
          simp -failIfUnchanged (disch := first | omega | (simp <;> omega) | fail) only [go_sem, simprocAttr, hy, mdQ_c, tkQ_c]
          refine ⟨(i + 1, true, z :: r ++ [x, y]), ⟨by dsimp only; omega, by simp only [List.length_append, List.length_cons, List.length_nil]; omega, (fun h => by cases h), fun _ => by rw [hp1]; simp⟩, by dsimp only; omega, ?_⟩
          simp -failIfUnchanged (disch := first | omega | (simp <;> omega) | fail) only [go_sem, simprocAttr, mdQ_c, tkQ_c]
          try simp
      | false =>
        rw [if_neg (by rw [hb]; exact Bool.false_ne_true)] at hp1
        cases o with
        | nil =>
          simp -failIfUnchanged (disch := first | omega | (simp <;> omega) | fail) only [go_sem, simprocAttr, hy, mdQ_n, tkQ_n]
          refine wcall (c74 x y) ?_
          rw [hb]
          simp -failIfUnchanged (disch := first | omega | (simp <;> omega) | fail) only [go_sem, simprocAttr, hy, mdQ_n, tkQ_n]
          refine ⟨(i + 1, false, [y]), ⟨by dsimp only; omega, by simp only [List.length_append, List.length_cons, List.length_nil]; omega, (fun _ => by rw [hp1]; simp), fun h => by cases h⟩, by dsimp only; omega, ?_⟩
          simp -failIfUnchanged (disch := first | omega | (simp <;> omega) | fail) only [go_sem, simprocAttr, mdQ_c, tkQ_c]
          try simp
        | cons z r =>
          have hol' : r.length + 1 ≤ 2 * i := by simpa using hol
          simp -failIfUnchanged (disch := first | omega | (simp <;> omega) | fail) only [go_sem, simprocAttr, hy, mdQ_c, tkQ_c]
          refine wcall (c74 x y) ?_
          rw [hb]
          simp -failIfUnchanged (disch := first | omega | (simp <;> omega) | fail) only [go_sem, simprocAttr, hy, mdQ_c, tkQ_c]
          refine ⟨(i + 1, false, z :: r ++ [y]), ⟨by dsimp only; omega, by simp only [List.length_append, List.length_cons, List.length_nil]; omega, (fun _ => by rw [hp1]; simp), fun h => by cases h⟩, by dsimp only; omega, ?_⟩
          simp -failIfUnchanged (disch := first | omega | (simp <;> omega) | fail) only [go_sem, simprocAttr, mdQ_c, tkQ_c]
          try simp
  · have e : i = b.say.length := by omega
    subst e
    rw [List.drop_length] at hp1 hp2
    cases pt with
    | true =>
      have hp2 := hp2 rfl
      rw [List.append_nil] at hp2
      have hw := c53 (witB b d lo hi f) (by show (insS _ _).length < _; rw [insS_len]; omega)
      rw [hwit, hp2] at hw
      have hwo : witO b d lo hi f = (checkB { b with found := F, say := o } && decide (¬ f = 0)) := by unfold witO; rw [hwit, hp2]
      rw [hwo, hp2]
      cases o with
      | nil =>
        simp -failIfUnchanged (disch := first | omega | (simp <;> omega) | fail) only [go_sem, simprocAttr, mdQ_n, tkQ_n]
        refine wcall hw ?_
        unfold errB
        cases checkB { b with found := F, say := [] } with
        | true => simp -failIfUnchanged (disch := first | omega | (simp <;> omega) | fail) only [go_sem, simprocAttr]; try simp
        | false => simp -failIfUnchanged (disch := first | omega | (simp <;> omega) | fail) only [go_sem, simprocAttr]; try simp
      | cons z r =>
        simp -failIfUnchanged (disch := first | omega | (simp <;> omega) | fail) only [go_sem, simprocAttr, mdQ_c, tkQ_c]
        refine wcall hw ?_
        unfold errB
        cases checkB { b with found := F, say := z :: r } with
        | true => simp -failIfUnchanged (disch := first | omega | (simp <;> omega) | fail) only [go_sem, simprocAttr]; try simp
        | false => simp -failIfUnchanged (disch := first | omega | (simp <;> omega) | fail) only [go_sem, simprocAttr]; try simp
    | false =>
      have hp1 := hp1 rfl
      rw [insS] at hp1
      have hw := c53 (witB b d lo hi f) (by show (insS _ _).length < _; rw [insS_len]; omega)
      rw [hwit, hp1] at hw
      have hwo : witO b d lo hi f = (checkB { b with found := F, say := o ++ [x] } && decide (¬ f = 0)) := by unfold witO; rw [hwit, hp1]
      rw [hwo, hp1]
      cases o with
      | nil =>
        rw [List.nil_append] at hw
        simp -failIfUnchanged (disch := first | omega | (simp <;> omega) | fail) only [go_sem, simprocAttr, mdQ_n, tkQ_n]
        refine wcall hw ?_
        unfold errB
        cases checkB { b with found := F, say := [x] } with
        | true => simp -failIfUnchanged (disch := first | omega | (simp <;> omega) | fail) only [go_sem, simprocAttr]; try simp
        | false => simp -failIfUnchanged (disch := first | omega | (simp <;> omega) | fail) only [go_sem, simprocAttr]; try simp
      | cons z r =>
        have hol' : r.length + 1 ≤ 2 * b.say.length := by simpa using hol
        have hmp : SY z :: (r.map SY ++ [SY x]) = (z :: r ++ [x]).map SY := by simp
        simp only [List.cons_append] at hw
        unfold DB SL at hw
        simp only [List.map_cons, List.map_append, List.map_nil] at hw
        simp -failIfUnchanged (disch := first | omega | (simp <;> omega) | fail) only [go_sem, simprocAttr, mdQ_c, tkQ_c]
        refine wcall hw ?_
        unfold errB
        cases checkB { b with found := F, say := z :: (r ++ [x]) } with
        | true => simp -failIfUnchanged (disch := first | omega | (simp <;> omega) | fail) only [go_sem, simprocAttr]; try simp
        | false => simp -failIfUnchanged (disch := first | omega | (simp <;> omega) | fail) only [go_sem, simprocAttr]; try simp

end Go.Proofs.Ytmcfibpeenhcnaa


/- Plain law of chances with one more saying. -/
set_option linter.unusedSimpArgs false
set_option linter.unusedVariables false
set_option linter.unnecessarySimpa false
namespace Go.Proofs.Ytmcfibpeenhcnaa
open Go Go.V

def isWL (f : List Int) (d : Int) (s : Sy) : Bool := decide (s.d = d ∧ f[s.p.toNat]?.getD default ≠ 0)
def hitL (f : List Int) (s : Sy) : Bool := within (f[s.p.toNat]?.getD default) s.lo s.hi
def widL (f : List Int) (d : Int) (l : List Sy) : List Nat := (l.filter (isWL f d)).map fun s => (wid s).toNat
def rigL (f : List Int) (d : Int) (l : List Sy) : Nat := (l.filter fun s => isWL f d s && hitL f s).length

theorem widK_L (b : Bk) (d : Int) : ∀ k, k ≤ b.say.length → widK b d k = widL b.found d (b.say.take k)
  | 0, _ => rfl
  | k + 1, hk => by
    rw [widK, widK_L b d k (by omega)]
    have e : b.say.take (k + 1) = b.say.take k ++ [syt b k] := by rw [List.take_add_one, List.getElem?_eq_getElem (by omega)]; simp [syt, show k < b.say.length by omega]
    rw [e]
    unfold widL
    rw [List.filter_append, List.map_append]
    by_cases h : isW b d k
    · rw [if_pos h]
      have : isWL b.found d (syt b k) = true := decide_eq_true h
      simp [this]
    · rw [if_neg h]
      have : isWL b.found d (syt b k) = false := decide_eq_false h
      simp [this]
theorem rigK_L (b : Bk) (d : Int) : ∀ k, k ≤ b.say.length → rigK b d k = rigL b.found d (b.say.take k)
  | 0, _ => rfl
  | k + 1, hk => by
    rw [rigK, rigK_L b d k (by omega)]
    have e : b.say.take (k + 1) = b.say.take k ++ [syt b k] := by rw [List.take_add_one, List.getElem?_eq_getElem (by omega)]; simp [syt, show k < b.say.length by omega]
    rw [e]
    unfold rigL
    rw [List.filter_append, List.length_append]
    congr 1
    have e2 : hitL b.found (syt b k) = hitB b k := rfl
    by_cases h : isW b d k
    · have : isWL b.found d (syt b k) = true := decide_eq_true h
      cases hh : hitB b k <;> simp [this, e2, hh, h]
    · have : isWL b.found d (syt b k) = false := decide_eq_false h
      simp [this, h]
theorem wids_L (b : Bk) (d : Int) : wids b d = widL b.found d b.say := by unfold wids; rw [widK_L b d _ (Nat.le_refl _), List.take_length]
theorem rig_L (b : Bk) (d : Int) : rig b d = rigL b.found d b.say := by unfold rig; rw [rigK_L b d _ (Nat.le_refl _), List.take_length]

theorem bef_pair {b : Bk} (hv : BV b) : b.say.Pairwise (fun x y => bef x y = true) := by
  rw [List.pairwise_iff_getElem]
  intro i j hi hj hij
  have := od_lt hv j hij hj
  simpa [syt, hi, hj] using this

theorem ins_filter {x : Sy} (q : Sy → Bool) (hq : q x = true) (hd : ∀ s, q s = true → s.d = x.d) : ∀ (l : List Sy), l.Pairwise (fun x y => bef x y = true) → (∀ s ∈ l, s.p < x.p) → (insS x l).filter q = l.filter q ++ [x]
  | [], _, _ => by simp [insS, hq]
  | y :: r, h1, h2 => by
    have hy := List.pairwise_cons.1 h1
    rw [insS]
    split
    · rename_i hb
      have hlt : x.d < y.d := by
        have := h2 y (by simp)
        simp only [bef, decide_eq_true_eq] at hb
        omega
      have hn : (y :: r).filter q = [] := by
        rw [List.filter_eq_nil_iff]
        intro s hs hqs
        have h3 := hd s hqs
        rcases List.mem_cons.1 hs with rfl | hs
        · omega
        · have := hy.1 s hs
          simp only [bef, decide_eq_true_eq] at this
          omega
      rw [hn, List.filter_cons, hn]
      simp [hq]
    · rw [List.filter_cons, List.filter_cons, ins_filter q hq hd r hy.2 fun s hs => h2 s (by simp [hs])]
      split <;> simp
theorem ins_filter_no {x : Sy} (q : Sy → Bool) (hq : q x = false) : ∀ (l : List Sy), (insS x l).filter q = l.filter q
  | [] => by simp [insS, hq]
  | y :: r => by
    rw [insS]
    split
    · rw [List.filter_cons]; simp [hq]
    · rw [List.filter_cons, List.filter_cons, ins_filter_no q hq r]

theorem wit_wids {b : Bk} (hv : BV b) {d lo hi f : Int} (hf : f ≠ 0) : wids (witB b d lo hi f) d = wids b d ++ [(wid ⟨d, (b.found.length : Int), lo, hi⟩).toNat] ∧ rig (witB b d lo hi f) d = rig b d + if within f lo hi = true then 1 else 0 := by
  have hp : ∀ s ∈ b.say, s.p < (b.found.length : Int) ∧ 0 ≤ s.p := by
    intro s hs
    obtain ⟨i, hi', rfl⟩ := List.getElem_of_mem hs
    have := hv.sy i hi'
    simp only [syt, List.getElem?_eq_getElem hi', Option.getD_some] at this
    omega
  have hfe : ∀ s ∈ b.say, (b.found ++ [f])[s.p.toNat]?.getD default = b.found[s.p.toNat]?.getD default := by
    intro s hs
    have := hp s hs
    rw [List.getElem?_append_left (by omega)]
  have hfx : (b.found ++ [f])[((b.found.length : Nat) : Int).toNat]?.getD default = f := by simp
  obtain ⟨x, hx⟩ : ∃ x : Sy, ⟨d, (b.found.length : Int), lo, hi⟩ = x := ⟨_, rfl⟩
  have hxW : isWL (b.found ++ [f]) d x = true := by rw [← hx]; exact decide_eq_true ⟨rfl, by rw [hfx]; exact hf⟩
  have hxH : hitL (b.found ++ [f]) x = within f lo hi := by rw [← hx]; unfold hitL; rw [hfx]
  have hxp : x.p = (b.found.length : Int) := by rw [← hx]
  have hxd : x.d = d := by rw [← hx]
  have hcongr : ∀ q q' : Sy → Bool, (∀ s ∈ b.say, q s = q' s) → b.say.filter q = b.say.filter q' := fun q q' h => List.filter_congr h
  rw [wids_L, rig_L, wids_L, rig_L]
  show widL (b.found ++ [f]) d (insS _ b.say) = _ ∧ rigL (b.found ++ [f]) d (insS _ b.say) = _
  rw [hx]
  constructor
  · unfold widL
    rw [ins_filter (isWL (b.found ++ [f]) d) hxW (fun s hs => by rw [hxd]; exact (of_decide_eq_true hs).1) b.say (bef_pair hv) (fun s hs => by rw [hxp]; exact (hp s hs).1), List.map_append]
    congr 2
    exact hcongr _ _ fun s hs => by unfold isWL; rw [hfe s hs]
  · unfold rigL
    have hc2 : b.say.filter (fun s => isWL (b.found ++ [f]) d s && hitL (b.found ++ [f]) s) = b.say.filter fun s => isWL b.found d s && hitL b.found s := hcongr _ _ fun s hs => by unfold isWL hitL; rw [hfe s hs]
    cases hw : within f lo hi with
    | true =>
      rw [ins_filter _ (by rw [hxW, hxH, hw]; rfl) (fun s hs => by
        rw [Bool.and_eq_true] at hs
        rw [hxd]; exact (of_decide_eq_true hs.1).1) b.say (bef_pair hv) (fun s hs => by rw [hxp]; exact (hp s hs).1), hc2]
      simp
    | false =>
      rw [ins_filter_no _ (by rw [hxW, hxH, hw]; rfl), hc2]
      simp

/-! ### sums of cases -/
def tS (D : Nat) (ws : List Nat) (r : Nat) : Nat := ((caseN D ws).drop r).sum
theorem drop_sum_succ (l : List Nat) (r : Nat) : (l.drop r).sum = nth l r + (l.drop (r + 1)).sum := by
  rcases Nat.lt_or_ge r l.length with h | h
  · rw [List.drop_eq_getElem_cons h, List.sum_cons]
    simp [nth, h]
  · rw [List.drop_of_length_le h, List.drop_of_length_le (by omega)]
    simp [nth, h]
theorem step_drop (D : Nat) (cs : List Nat) (w : Nat) : ∀ m r, 1 ≤ r → r + m = cs.length + 1 → ((stepN D cs w).drop r).sum = (cs.drop r).sum * (D - w) + (cs.drop (r - 1)).sum * w
  | 0, r, h1, h2 => by
    rw [List.drop_of_length_le (by rw [stepN_len]; omega), List.drop_of_length_le (l := cs) (by omega), List.drop_of_length_le (l := cs) (i := r - 1) (by omega)]
    simp
  | m + 1, r, h1, h2 => by
    have ih := step_drop D cs w m (r + 1) (by omega) (by omega)
    rw [drop_sum_succ, ih, Nat.add_sub_cancel, drop_sum_succ cs r, drop_sum_succ cs (r - 1), show r - 1 + 1 = r by omega, drop_sum_succ cs r]
    have : nth (stepN D cs w) r = nth cs r * (D - w) + nth cs (r - 1) * w := by
      simp only [nth, stepN, List.getElem?_map]
      rw [List.getElem?_range (by omega)]
      simp only [Option.map_some, Option.getD_some]
      rw [if_neg (by omega)]
    rw [this]
    simp only [Nat.add_mul]
    omega
theorem step_drop' (D : Nat) (cs : List Nat) (w r : Nat) (h1 : 1 ≤ r) : ((stepN D cs w).drop r).sum = (cs.drop r).sum * (D - w) + (cs.drop (r - 1)).sum * w := by
  rcases Nat.lt_or_ge (cs.length + 1) r with h | h
  · rw [List.drop_of_length_le (by rw [stepN_len]; omega), List.drop_of_length_le (l := cs) (by omega), List.drop_of_length_le (l := cs) (i := r - 1) (by omega)]
    simp
  · exact step_drop D cs w (cs.length + 1 - r) r h1 (by omega)

theorem tS_mono (D : Nat) (ws : List Nat) (r : Nat) : tS D ws (r + 1) ≤ tS D ws r := by
  unfold tS
  rw [drop_sum_succ (caseN D ws) r]
  omega
/-- One more that is right. -/
theorem tS_hit {D w : Nat} (hw : w ≤ D) (ws : List Nat) (r : Nat) : tS D (ws ++ [w]) (r + 1) ≤ tS D ws r * D := by
  have h := step_drop' D (caseN D ws) w (r + 1) (by omega)
  rw [Nat.add_sub_cancel] at h
  have e : tS D (ws ++ [w]) (r + 1) = tS D ws (r + 1) * (D - w) + tS D ws r * w := by unfold tS; rw [caseN_snoc]; exact h
  have h2 : tS D ws (r + 1) * (D - w) ≤ tS D ws r * (D - w) := Nat.mul_le_mul_right _ (tS_mono D ws r)
  have h3 : tS D ws r * D = tS D ws r * (D - w) + tS D ws r * w := by rw [← Nat.mul_add, show D - w + w = D by omega]
  omega
/-- One more that is wrong. -/
theorem tS_miss {D w : Nat} (hw : w ≤ D) (ws : List Nat) (r : Nat) : tS D ws r * D ≤ tS D (ws ++ [w]) r := by
  cases r with
  | zero =>
    unfold tS
    rw [List.drop_zero, List.drop_zero, caseN_snoc, stepN_sum _ _ _ hw]
    exact Nat.le_refl _
  | succ r =>
    have h := step_drop' D (caseN D ws) w (r + 1) (by omega)
    rw [Nat.add_sub_cancel] at h
    have e : tS D (ws ++ [w]) (r + 1) = tS D ws (r + 1) * (D - w) + tS D ws r * w := by unfold tS; rw [caseN_snoc]; exact h
    have h2 : tS D ws (r + 1) * w ≤ tS D ws r * w := Nat.mul_le_mul_right _ (tS_mono D ws r)
    have h3 : tS D ws (r + 1) * D = tS D ws (r + 1) * (D - w) + tS D ws (r + 1) * w := by rw [← Nat.mul_add, show D - w + w = D by omega]
    omega

/-- Fractions in lowest terms compare as they did. -/
theorem low_cross {S A S' A' : Nat} (hA : 0 < A) (hA' : 0 < A') (h : S' * A ≤ S * A') : (S' / Nat.gcd S' A') * (A / Nat.gcd S A) ≤ (S / Nat.gcd S A) * (A' / Nat.gcd S' A') := by
  have g1 : 0 < Nat.gcd S A := Nat.gcd_pos_of_pos_right _ hA
  have g2 : 0 < Nat.gcd S' A' := Nat.gcd_pos_of_pos_right _ hA'
  obtain ⟨s, hs⟩ := Nat.gcd_dvd_left S A
  obtain ⟨a, ha⟩ := Nat.gcd_dvd_right S A
  obtain ⟨s', hs'⟩ := Nat.gcd_dvd_left S' A'
  obtain ⟨a', ha'⟩ := Nat.gcd_dvd_right S' A'
  have e1 : S / Nat.gcd S A = s := Nat.div_eq_of_eq_mul_right g1 hs
  have e2 : A / Nat.gcd S A = a := Nat.div_eq_of_eq_mul_right g1 ha
  have e3 : S' / Nat.gcd S' A' = s' := Nat.div_eq_of_eq_mul_right g2 hs'
  have e4 : A' / Nat.gcd S' A' = a' := Nat.div_eq_of_eq_mul_right g2 ha'
  rw [e1, e2, e3, e4]
  generalize Nat.gcd S A = g at *
  generalize Nat.gcd S' A' = g' at *
  have h1 : (g' * g) * (s' * a) ≤ (g' * g) * (s * a') := by
    have x1 : (g' * g) * (s' * a) = S' * A := by rw [hs', ha]; simp only [Nat.mul_assoc, Nat.mul_left_comm]
    have x2 : (g' * g) * (s * a') = S * A' := by rw [hs, ha']; simp only [Nat.mul_assoc, Nat.mul_left_comm]
    rw [x1, x2]; exact h
  exact Nat.le_of_mul_le_mul_left h1 (Nat.mul_pos g2 g1)

def prodN : List Nat → Nat
  | [] => 1
  | w :: r => w * prodN r
theorem prodN_snoc (l : List Nat) (w : Nat) : prodN (l ++ [w]) = prodN l * w := by
  induction l with
  | nil => simp [prodN]
  | cons x r ih => simp only [List.cons_append, prodN, ih, Nat.mul_assoc]
theorem prodN_pos {l : List Nat} (h : ∀ w ∈ l, 1 ≤ w) : 1 ≤ prodN l := by
  induction l with
  | nil => simp [prodN]
  | cons x r ih =>
    have h1 := h x (by simp)
    have h2 := ih fun w hw => h w (by simp [hw])
    exact Nat.mul_pos h1 h2
theorem case_last (D : Nat) (ws : List Nat) : nth (caseN D ws) ws.length = prodN ws := by
  have key : ∀ (ws cs : List Nat), 0 < cs.length → nth (ws.foldl (stepN D) cs) (cs.length - 1 + ws.length) = nth cs (cs.length - 1) * prodN ws := by
    intro ws
    induction ws with
    | nil => intro cs _; simp [prodN]
    | cons w r ih =>
      intro cs hc
      rw [List.foldl_cons, List.length_cons]
      have h := ih (stepN D cs w) (by rw [stepN_len]; omega)
      rw [stepN_len] at h
      rw [show cs.length - 1 + (r.length + 1) = cs.length + 1 - 1 + r.length by omega, h, Nat.add_sub_cancel]
      have : nth (stepN D cs w) cs.length = nth cs (cs.length - 1) * w := by
        simp only [nth, stepN, List.getElem?_map]
        rw [List.getElem?_range (by omega)]
        simp only [Option.map_some, Option.getD_some]
        rw [if_neg (by omega)]
        simp
      rw [this, prodN, Nat.mul_assoc]
  have := key ws [1] (by simp)
  simpa [caseN, nth] using this
theorem tS_last (D : Nat) (ws : List Nat) : tS D ws ws.length = prodN ws := by
  unfold tS
  rw [drop_sum_succ, case_last, List.drop_of_length_le (by rw [caseN_len]; omega)]
  simp
theorem tS_le (D : Nat) (ws : List Nat) {r k : Nat} (h : r ≤ k) : tS D ws k ≤ tS D ws r := by
  obtain ⟨m, rfl⟩ : ∃ m, k = r + m := ⟨k - r, by omega⟩
  induction m with
  | zero => exact Nat.le_refl _
  | succ m ih => exact Nat.le_trans (tS_mono D ws (r + m)) (ih (by omega))
theorem tS_pos {D : Nat} {ws : List Nat} (hw : ∀ w ∈ ws, 1 ≤ w) {r : Nat} (hr : r ≤ ws.length) : 1 ≤ tS D ws r := by
  have h1 := tS_le D ws hr
  rw [tS_last] at h1
  have := prodN_pos hw
  omega

theorem low_low {S A : Nat} (hA : 0 < A) : low (S / Nat.gcd S A) (A / Nat.gcd S A) = low S A := by
  have h : Nat.Coprime (S / Nat.gcd S A) (A / Nat.gcd S A) := Nat.coprime_div_gcd_div_gcd (Nat.gcd_pos_of_pos_right _ hA)
  have h' : Nat.gcd (S / Nat.gcd S A) (A / Nat.gcd S A) = 1 := h
  unfold low
  rw [h', Nat.div_one, Nat.div_one]

end Go.Proofs.Ytmcfibpeenhcnaa


/- DowsersMany. -/
set_option linter.unusedSimpArgs false
set_option linter.unusedVariables false
set_option linter.unnecessarySimpa false
namespace Go.Proofs.Ytmcfibpeenhcnaa
open Go Go.V

theorem c40 (n : Int) : Ctr Try.prog 40 [.int n] (.bool (within n 1 99)) := by
  refine ctr_of_wp hmix Try.func40 m40 rfl ?_
  unfold v40
  simp -failIfUnchanged (disch := first | omega | (simp <;> omega) | fail) only [go_sem, simprocAttr]
  refine wcall (c64 _ _ _) ?_
  simp -failIfUnchanged (disch := first | omega | (simp <;> omega) | fail) only [go_sem, simprocAttr]

theorem c43 (n d h : Nat) (hn : n ≤ d) (hd : d ≤ 10000000000000) (hh : h ≤ 99) : Ctr Try.prog 43 [.agg [.int n, .int d], .int h] (.bool (decide (100 * n ≤ h * d))) := by
  refine ctr_of_wp hmix Try.func43 m43 rfl ?_
  unfold v43
  have hm : h * d ≤ 99 * d := Nat.mul_le_mul_right _ hh
  have e1 : (100 : Int) * (n : Int) = ((100 * n : Nat) : Int) := by omega
  have e2 : (h : Int) * (d : Int) = ((h * d : Nat) : Int) := by rw [Int.natCast_mul]
  generalize h * d = y at *
  simp -failIfUnchanged (disch := first | omega | (simp <;> omega) | fail) only [go_sem, simprocAttr, e1, e2]
  have : decide (((100 * n : Nat) : Int) ≤ (y : Int)) = decide (100 * n ≤ y) := by congr 1; apply propext; omega
  rw [this]
theorem c43b {D : Nat} {ws : List Nat} (hD2 : D ≤ 12) (hw : ∀ w ∈ ws, w ≤ D) (hl : ws.length ≤ 12) {r h : Nat} (hh : h ≤ 99) : Ctr Try.prog 43 [PR (chcN D ws r), .int h] (.bool (smallB D ws r h)) :=
  c43 (chcA D ws r) (chcB D ws r) h (chc_le hw) (by have := pow12 hD2 hl; have := chcB_le D ws r; omega) hh

theorem c29 (n d : Nat) (hd : 0 < d) (hn : n ≤ 1000000000000000) (hd2 : d ≤ 1000000000000000) : Ctr Try.prog 29 [.int n, .int d] (PR (low n d)) := by
  refine ctr_of_wp hmix Try.func29 m29 rfl ?_
  unfold v29
  have hmx : max (n : Int) (0 - (n : Int)) = n := by omega
  simp -failIfUnchanged (disch := first | omega | (simp <;> omega) | fail) only [go_sem, simprocAttr, hmx]
  refine wp_loop' (Nat × Nat) (fun x => ⟨[(0, .int n), (1, .int d), (4, .ptr 4 0), (5, .int x.1), (6, .int x.2)], [(4, ⟨[.int 0, .int 0], false⟩)], [], none⟩)
    (fun x => Nat.gcd x.1 x.2 = Nat.gcd n d) (fun x => x.2) (n, d) rfl (by simp -failIfUnchanged (disch := first | omega | (simp <;> omega) | fail) only [go_sem, simprocAttr]; try simp) ?_
  rintro ⟨a, c⟩ hg
  dsimp only at hg ⊢
  simp -failIfUnchanged (disch := first | omega | (simp <;> omega) | fail) only [go_sem, simprocAttr]
  refine wcond_dec (fun h => ?_) (fun h => ?_)
  · have h0 : 0 < c := by omega
    have hlt : a % c < c := Nat.mod_lt _ h0
    simp -failIfUnchanged (disch := first | omega | (simp <;> omega) | fail) only [go_sem, simprocAttr]
    refine ⟨(c, a % c), by dsimp only; rw [gcd_step, hg], by dsimp only; omega, ?_⟩
    simp -failIfUnchanged (disch := first | omega | (simp <;> omega) | fail) only [go_sem, simprocAttr]
    try simp
  · have h0 : c = 0 := by omega
    subst h0
    rw [Nat.gcd_zero_right] at hg
    have hpos : 0 < a := by
      rw [hg]
      exact Nat.gcd_pos_of_pos_right _ hd
    have e0 : ∀ q : Nat, q ≤ 1000000000000000 → w64 (q : Int) = q := fun q h => w64_id (by omega)
    have e1 := e0 (n / a) (Nat.le_trans (Nat.div_le_self n a) hn)
    have e2 := e0 (d / a) (Nat.le_trans (Nat.div_le_self d a) hd2)
    simp -failIfUnchanged (disch := first | omega | (simp <;> omega) | fail) only [go_sem, simprocAttr, e1, e2]
    simp [low, hg]

theorem pow6 {D n : Nat} (hD : D ≤ 12) (hn : n ≤ 6) : D ^ n ≤ 2985984 := by
  calc D ^ n ≤ 12 ^ n := Nat.pow_le_pow_left hD n
    _ ≤ 12 ^ 6 := Nat.pow_le_pow_right (by omega) hn
    _ = 2985984 := by decide

theorem c27 {D : Nat} {ws : List Nat} {r : Nat} (hD : 1 ≤ D) (hD2 : D ≤ 12) (hw : ∀ w ∈ ws, 1 ≤ w ∧ w ≤ D) (hl : ws.length ≤ 6) (hr : r ≤ ws.length) : Ctr Try.prog 27 [PR (chcN D ws r)] (.bool true) := by
  refine ctr_of_wp hmix Try.func27 m27 rfl ?_
  unfold v27
  have hA : 0 < D ^ ws.length := Nat.pow_pos (by omega)
  have h1 := chc_le (D := D) (r := r) fun w h => (hw w h).2
  have h2 := chcB_le D ws r
  have h3 := pow6 hD2 hl
  have hS : 1 ≤ tS D ws r := tS_pos (fun w h => (hw w h).1) hr
  have hg : 0 < Nat.gcd (tS D ws r) (D ^ ws.length) := Nat.gcd_pos_of_pos_right _ hA
  have h4 : 1 ≤ chcA D ws r := Nat.div_pos (Nat.le_of_dvd hS (Nat.gcd_dvd_left _ _)) hg
  have h5 : low (chcA D ws r) (chcB D ws r) = chcN D ws r := low_low hA
  have h29 := c29 (chcA D ws r) (chcB D ws r) (by omega) (by omega) (by omega)
  rw [h5, chc_eq] at h29
  rw [chc_eq]
  generalize chcA D ws r = n at *
  generalize chcB D ws r = d at *
  have e1 : decide (1 ≤ (d : Int)) = true := decide_eq_true (by omega)
  have e2 : decide ((d : Int) ≤ 33554432) = true := decide_eq_true (by omega)
  have e3 : decide (1 ≤ (n : Int)) = true := decide_eq_true (by omega)
  have e4 : decide ((n : Int) ≤ (d : Int)) = true := decide_eq_true (by omega)
  simp -failIfUnchanged (disch := first | omega | (simp <;> omega) | fail) only [go_sem, simprocAttr, e1, e2, e3, e4]
  refine wcall h29 ?_
  simp -failIfUnchanged (disch := first | omega | (simp <;> omega) | fail) only [go_sem, simprocAttr, eq_self]

theorem fst_spec (p : Nat → Bool) (n : Nat) : (∃ k, fst p n = some k ∧ k < n ∧ p k = true ∧ ∀ j, j < k → p j = false) ∨ (fst p n = none ∧ ∀ j, j < n → p j = false) := by
  have key : (∃ k, k < n ∧ p k = true ∧ ∀ j, j < k → p j = false) ∨ ∀ j, j < n → p j = false := by
    induction n with
    | zero => exact .inr fun j hj => by omega
    | succ n ih =>
      rcases ih with ⟨k, h1, h2, h3⟩ | ih
      · exact .inl ⟨k, by omega, h2, h3⟩
      · cases hp : p n with
        | true => exact .inl ⟨n, by omega, hp, ih⟩
        | false =>
          refine .inr fun j hj => ?_
          rcases Nat.lt_or_ge j n with h | h
          · exact ih j h
          · obtain rfl : j = n := by omega
            exact hp
  rcases key with ⟨k, h1, h2, h3⟩ | h
  · exact .inl ⟨k, fst_hit h1 h3 h2, h1, h2, h3⟩
  · exact .inr ⟨fst_none h, h⟩

theorem wids_bd {b : Bk} (hv : BV b) (d : Int) : ∀ w ∈ wids b d, 1 ≤ w ∧ w ≤ dN b := fun w hw => widK_le hv d _ (Nat.le_refl _) w hw

/-- With one more that is right it is no less likely shown. -/
theorem small_more {D w : Nat} (hD : 1 ≤ D) (hw : w ≤ D) {ws : List Nat} (r h : Nat) (hs : smallB D ws r h = true) : smallB D (ws ++ [w]) (r + 1) h = true := by
  have h1 := tS_hit hw ws r
  have hA : 0 < D ^ ws.length := Nat.pow_pos (by omega)
  have hA' : 0 < D ^ (ws ++ [w]).length := Nat.pow_pos (by omega)
  have h2 : tS D (ws ++ [w]) (r + 1) * D ^ ws.length ≤ tS D ws r * D ^ (ws ++ [w]).length := by
    have e : D ^ (ws ++ [w]).length = D * D ^ ws.length := by rw [List.length_append, List.length_singleton, Nat.pow_succ, Nat.mul_comm]
    rw [e, ← Nat.mul_assoc]
    exact Nat.mul_le_mul_right _ h1
  have h3 : chcA D (ws ++ [w]) (r + 1) * chcB D ws r ≤ chcA D ws r * chcB D (ws ++ [w]) (r + 1) := low_cross hA hA' h2
  have hs' := of_decide_eq_true hs
  apply decide_eq_true
  have hB : 0 < chcB D ws r := Nat.div_pos (Nat.le_of_dvd hA (Nat.gcd_dvd_right _ _)) (Nat.gcd_pos_of_pos_right _ hA)
  generalize chcA D (ws ++ [w]) (r + 1) = a' at *
  generalize chcB D (ws ++ [w]) (r + 1) = b' at *
  generalize chcA D ws r = a at *
  generalize chcB D ws r = b at *
  have h4 : (100 * a') * b ≤ (h * b') * b := by
    calc (100 * a') * b = 100 * (a' * b) := Nat.mul_assoc _ _ _
      _ ≤ 100 * (a * b') := Nat.mul_le_mul_left _ h3
      _ = (100 * a) * b' := (Nat.mul_assoc _ _ _).symm
      _ ≤ (h * b) * b' := Nat.mul_le_mul_right _ hs'
      _ = (h * b') * b := by rw [Nat.mul_assoc, Nat.mul_comm b b', ← Nat.mul_assoc]
  exact Nat.le_of_mul_le_mul_right h4 hB

theorem morP_mono {b : Bk} (hv : BV b) (d : Int) {w h : Nat} (hw : w ≤ dN b) {k : Nat} : ∀ j, k ≤ j → morP b d w h k = true → morP b d w h j = true
  | 0, hkj, hk => by
    obtain rfl : k = 0 := by omega
    exact hk
  | j + 1, hkj, hk => by
    by_cases e : k = j + 1
    · subst e; exact hk
    · have ih := morP_mono hv d hw j (by omega) hk
      unfold morP at *
      rw [List.replicate_succ', ← List.append_assoc]
      exact small_more (dN_bd hv).1 hw _ _ ih

theorem c7 (b : Bk) (d w h : Int) : Ctr Try.prog 7 [DB b, .agg [.int d, .int w, .int h]] (.bool true) := by
  refine ctr_of_wp hmix Try.func7 m7 rfl ?_
  unfold v7
  simp -failIfUnchanged (disch := first | omega | (simp <;> omega) | fail) only [go_sem, simprocAttr]
  refine wcall (c25 b) ?_
  cases hr : (!hugeB b && checkB b) with
  | false =>
    simp -failIfUnchanged (disch := first | omega | (simp <;> omega) | fail) only [go_sem, simprocAttr]
    refine wcall c17 ?_
    simp -failIfUnchanged (disch := first | omega | (simp <;> omega) | fail) only [go_sem, simprocAttr]
  | true =>
    simp only [Bool.and_eq_true, Bool.not_eq_true'] at hr
    obtain ⟨h1, h2⟩ := huge_false hr.1
    have hcb := hr.2
    have hv := bv_of hcb
    have hn : b.say.length < 4294967296 := by omega
    simp -failIfUnchanged (disch := first | omega | (simp <;> omega) | fail) only [go_sem, simprocAttr]
    refine wcall (c16 b d) ?_
    cases hd : within d 0 (w64 (b.dow - 1)) with
    | false =>
      simp -failIfUnchanged (disch := first | omega | (simp <;> omega) | fail) only [go_sem, simprocAttr]
      refine wcall c17 ?_
      simp -failIfUnchanged (disch := first | omega | (simp <;> omega) | fail) only [go_sem, simprocAttr]
    | true =>
      simp -failIfUnchanged (disch := first | omega | (simp <;> omega) | fail) only [go_sem, simprocAttr]
      refine wcall (c40 h) ?_
      cases hh : within h 1 99 with
      | false =>
        simp -failIfUnchanged (disch := first | omega | (simp <;> omega) | fail) only [go_sem, simprocAttr]
        refine wcall c17 ?_
        simp -failIfUnchanged (disch := first | omega | (simp <;> omega) | fail) only [go_sem, simprocAttr]
      | true =>
        simp -failIfUnchanged (disch := first | omega | (simp <;> omega) | fail) only [go_sem, simprocAttr]
        refine wcall (c20 _ _ _) ?_
        cases hww : within w 1 b.depth with
        | false =>
          simp -failIfUnchanged (disch := first | omega | (simp <;> omega) | fail) only [go_sem, simprocAttr]
          refine wcall c17 ?_
          simp -failIfUnchanged (disch := first | omega | (simp <;> omega) | fail) only [go_sem, simprocAttr]
        | true =>
          obtain ⟨hD1, hD2, hD3⟩ := dN_bd hv
          have hh' := within_iff.1 hh
          have hw' := within_iff.1 hww
          obtain ⟨q, rfl⟩ : ∃ q : Nat, h = q := ⟨h.toNat, by omega⟩
          obtain ⟨u, rfl⟩ : ∃ u : Nat, w = u := ⟨w.toNat, by omega⟩
          have huD : u ≤ dN b := by omega
          have k1 := c41 b hn d u q
          have k2 := c42 b hn d q
          have k3 := c26 b hn d
          have e1 : mE b d u q = 0 := ask_of hcb (by rw [hd, hh, hww]; rfl)
          have e2 : hE b d q = 0 := ask_of hcb (by rw [hd, hh]; rfl)
          have e3 : dE b d = 0 := ask_of hcb hd
          unfold morR at k1
          unfold shwR at k2
          unfold chaR at k3
          simp only [e1, e2, e3, if_true, Int.toNat_natCast] at k1 k2 k3
          have hP0 : smallB (dN b) (wids b d) (rig b d) q = morP b d u q 0 := by unfold morP; simp
          rw [hP0] at k2
          have k4 := c27 hD1 hD2 (wids_bd hv d) (wids_6 hv d) (rigK_le b d b.say.length)
          change Ctr Try.prog 27 [PR (chcN (dN b) (wids b d) (rig b d))] (.bool true) at k4
          have k5 := c43b (r := rig b d) hD2 (wids_le hv d) (by have := wids_6 hv d; omega) (h := q) (by omega)
          rw [hP0] at k5
          have hmono := fun k j => morP_mono (h := q) hv d huD (k := k) j
          generalize hC : chcN (dN b) (wids b d) (rig b d) = C at *
          have hsp := fst_spec (morP b d u q) 7
          obtain ⟨n, e, hfe, hne, hall, hn0⟩ : ∃ (n : Nat) (e : Int), Ctr Try.prog 41 [DB b, .int d, .int u, .int q] (.tup [.int n, .int e]) ∧ (e = 0 ∨ e = 2) ∧ (∀ many : Nat, many ≤ 6 → morP b d u q many = (decide (e = 0) && decide ((n : Int) ≤ many))) ∧ n ≤ 6 := by
            rcases hsp with ⟨k, f1, f2, f3, f4⟩ | ⟨f1, f2⟩
            · refine ⟨k, 0, by rw [f1] at k1; exact k1, .inl rfl, fun many hm => ?_, by omega⟩
              rcases Nat.lt_or_ge many k with g | g
              · rw [f4 many g]
                have : ¬ ((k : Int) ≤ many) := by omega
                simp [this]
              · rw [hmono k many g f3]
                have : ((k : Int) ≤ many) := by omega
                simp [this]
            · exact ⟨0, 2, by rw [f1] at k1; exact k1, .inr rfl, fun many hm => by rw [f2 many (by omega)]; rfl, by omega⟩
          clear k1
          have hP0' := hall 0 (by omega)
          have hn6 : decide ((6 : Int) < n) = false := decide_eq_false (by omega)
          have hnn : decide ((n : Int) < 0) = false := decide_eq_false (by omega)
          rw [hP0'] at k2 k5
          simp -failIfUnchanged (disch := first | omega | (simp <;> omega) | fail) only [go_sem, simprocAttr]
          refine wcall hfe ?_
          simp -failIfUnchanged (disch := first | omega | (simp <;> omega) | fail) only [go_sem, simprocAttr]
          refine wcall k2 ?_
          simp -failIfUnchanged (disch := first | omega | (simp <;> omega) | fail) only [go_sem, simprocAttr]
          refine wcall k3 ?_
          simp -failIfUnchanged (disch := first | omega | (simp <;> omega) | fail) only [go_sem, simprocAttr]
          have hle : decide ((n : Int) ≤ 0) = decide ((n : Int) = 0) := by congr 1; apply propext; omega
          have hle2 : decide ((n : Int) ≤ ((0 : Nat) : Int)) = decide ((n : Int) = 0) := hle
          refine tailed (T := ?T) (fun tail => ?m) ?t
          case m =>
            by_cases h0 : e = 0
            · have a1 : decide (¬ e = 0) = false := decide_eq_false (fun x => x h0)
              have a2 : decide (e = 0) = true := decide_eq_true h0
              simp -failIfUnchanged (disch := first | omega | (simp <;> omega) | fail) only [go_sem, simprocAttr, a1, a2, hle, hle2]
              refine wcall k4 ?_
              simp -failIfUnchanged (disch := first | omega | (simp <;> omega) | fail) only [go_sem, simprocAttr, a1, a2, hle, hle2]
              cases hz : decide ((n : Int) = 0) with
              | true =>
                simp -failIfUnchanged (disch := first | omega | (simp <;> omega) | fail) only [go_sem, simprocAttr, a1, a2, hle, hle2, hz]
                rw [hle2, hz, a2] at k5
                refine wcall k5 ?_
                simp -failIfUnchanged (disch := first | omega | (simp <;> omega) | fail) only [go_sem, simprocAttr, a1, a2, hle, hle2, hz, hn6, hnn]
                exact tail.out
              | false =>
                simp -failIfUnchanged (disch := first | omega | (simp <;> omega) | fail) only [go_sem, simprocAttr, a1, a2, hle, hle2, hz]
                rw [hle2, hz, a2] at k5
                refine wcall k5 ?_
                simp -failIfUnchanged (disch := first | omega | (simp <;> omega) | fail) only [go_sem, simprocAttr, a1, a2, hle, hle2, hz, hn6, hnn]
                exact tail.out
            · have h2 := hne.resolve_left h0
              have a1 : decide (¬ e = 0) = true := decide_eq_true h0
              have a2 : decide (e = 0) = false := decide_eq_false h0
              have a3 : decide (¬ e = 2) = false := decide_eq_false (fun x => x h2)
              simp -failIfUnchanged (disch := first | omega | (simp <;> omega) | fail) only [go_sem, simprocAttr, a1, a2, a3]
              refine wcall k4 ?_
              simp -failIfUnchanged (disch := first | omega | (simp <;> omega) | fail) only [go_sem, simprocAttr, a1, a2, a3]
              rw [a2] at k5
              refine wcall k5 ?_
              simp -failIfUnchanged (disch := first | omega | (simp <;> omega) | fail) only [go_sem, simprocAttr, a1, a2, a3, hn6, hnn]
              exact tail.out
          case t =>
            refine wp_loop' (Nat × Bk) (fun st => ⟨[(3, .ptr 3 0), (5, .int n), (6, .int e), (11, .ptr 11 0), (12, .int st.1)], [(11, ⟨[.int st.2.depth, IS st.2.found, .int st.2.dow, SL st.2.say, .int st.2.pence], false⟩), (3, ⟨[.int d, .int u, .int q], false⟩)], [], none⟩)
              (fun st => st.1 ≤ 7 ∧ checkB st.2 = true ∧ st.2.depth = b.depth ∧ st.2.dow = b.dow ∧ wids st.2 d = wids b d ++ List.replicate st.1 u ∧ rig st.2 d = rig b d + st.1 ∧ st.2.found.length ≤ 40 + st.1 ∧ st.2.say.length ≤ 40 + st.1) (fun st => 7 - st.1) (0, b) ⟨by simp, hcb, rfl, rfl, by simp, rfl, h1, h2⟩ (by simp -failIfUnchanged (disch := first | omega | (simp <;> omega) | fail) only [go_sem, simprocAttr]; try simp) ?_
            rintro ⟨i, o⟩ ⟨g1, g2, g3, g4, g5, g6, g7, g8⟩
            dsimp only at g1 g2 g3 g4 g5 g6 g7 g8 ⊢
            simp -failIfUnchanged (disch := first | omega | (simp <;> omega) | fail) only [go_sem, simprocAttr]
            refine wcond_dec (fun hc => ?_) (fun hc => ?_)
            · have hi6 : i ≤ 6 := by omega
              have hvo := bv_of g2
              have k6 := c42 o (by omega) d q
              have e4 : hE o d q = 0 := ask_of g2 (by rw [g4, hd, hh]; rfl)
              have hdo : dN o = dN b := by unfold dN; rw [g3]
              unfold shwR at k6
              simp only [e4, if_true, Int.toNat_natCast] at k6
              have hPi : smallB (dN o) (wids o d) (rig o d) q = morP b d u q i := by unfold morP; rw [hdo, g5, g6]
              rw [hPi, hall i hi6] at k6
              have k7 := c30 o (by omega) (by omega) d 1 u 1
              unfold DB at k6 k7
              simp -failIfUnchanged (disch := first | omega | (simp <;> omega) | fail) only [go_sem, simprocAttr]
              refine wcall k6 ?_
              refine tailed (T := ?T2) (fun tail => ?m2) ?t2
              case m2 =>
                by_cases h0 : e = 0
                · have a2 : decide (e = 0) = true := decide_eq_true h0
                  simp -failIfUnchanged (disch := first | omega | (simp <;> omega) | fail) only [go_sem, simprocAttr, a2]
                  exact tail.out
                · have a2 : decide (e = 0) = false := decide_eq_false h0
                  simp -failIfUnchanged (disch := first | omega | (simp <;> omega) | fail) only [go_sem, simprocAttr, a2]
                  exact tail.out
              case t2 =>
                refine wcall k7 ?_
                cases hro : witO o d 1 u 1 with
                | false =>
                  simp -failIfUnchanged (disch := first | omega | (simp <;> omega) | fail) only [go_sem, simprocAttr]
                  refine wcall c17 ?_
                  simp -failIfUnchanged (disch := first | omega | (simp <;> omega) | fail) only [go_sem, simprocAttr]
                | true =>
                  unfold witO at hro
                  rw [Bool.and_eq_true] at hro
                  obtain ⟨w1, w2⟩ := wit_wids hvo (d := d) (lo := 1) (hi := u) (f := 1) (by omega)
                  have hwid : wid ⟨d, (o.found.length : Int), 1, u⟩ = (u : Int) := by
                    have hdp := hv.dp
                    unfold wid
                    dsimp only
                    rw [w64_id (n := (u : Int) - 1) (by omega), w64_id (by omega)]
                    omega
                  rw [hwid, Int.toNat_natCast, g5, List.append_assoc, ← List.replicate_succ'] at w1
                  rw [if_pos (within_iff.2 (by omega)), g6] at w2
                  have hl1 : (witB o d 1 u 1).found.length = o.found.length + 1 := by simp
                  have hl2 : (witB o d 1 u 1).say.length = o.say.length + 1 := insS_len _ _
                  have g3' : (witB o d 1 u 1).depth = b.depth := g3
                  have g4' : (witB o d 1 u 1).dow = b.dow := g4
                  generalize witB o d 1 u 1 = o2 at *
                  simp -failIfUnchanged (disch := first | omega | (simp <;> omega) | fail) only [go_sem, simprocAttr]
                  refine ⟨(i + 1, o2), ⟨by dsimp only; omega, hro.1, g3', g4', w1, by dsimp only; omega, by dsimp only; omega, by dsimp only; omega⟩, by dsimp only; omega, ?_⟩
                  simp -failIfUnchanged (disch := first | omega | (simp <;> omega) | fail) only [go_sem, simprocAttr]
                  try simp
            · simp -failIfUnchanged (disch := first | omega | (simp <;> omega) | fail) only [go_sem, simprocAttr]
              refine wcall c17 ?_
              simp -failIfUnchanged (disch := first | omega | (simp <;> omega) | fail) only [go_sem, simprocAttr]

end Go.Proofs.Ytmcfibpeenhcnaa


/- DowsersChances. -/
set_option linter.unusedSimpArgs false
set_option linter.unusedVariables false
set_option linter.unnecessarySimpa false
namespace Go.Proofs.Ytmcfibpeenhcnaa
open Go Go.V

theorem c28 (b : Bk) (hv : BV b) (hn : b.say.length < 4294967296) (d : Int) : Ctr Try.prog 28 [DB b, .int d] (.tup [IS (nI (wids b d)), .int (rig b d)]) := by
  refine ctr_of_wp hmix Try.func28 m28 rfl ?_
  unfold v28
  simp -failIfUnchanged (disch := first | omega | (simp <;> omega) | fail) only [go_sem, simprocAttr]
  refine wp_loop' Nat (fun i => ⟨[(1, .int d), (2, .ptr 2 0), (4, .sl 1 ((nI (widK b d i)).map .int) (.own 4)), (5, .int (rigK b d i)), (6, .int i)], [(2, ⟨[.int b.depth, IS b.found, .int b.dow, SL b.say, .int b.pence], false⟩)], [(4, (widK b d i).length)], none⟩) (fun i => i ≤ b.say.length) (fun i => b.say.length - i) 0 (by simp) (by simp -failIfUnchanged (disch := first | omega | (simp <;> omega) | fail) only [go_sem, simprocAttr]; simp [widK, rigK]) ?_
  intro i hi
  have hi : i ≤ b.say.length := hi
  simp -failIfUnchanged (disch := first | omega | (simp <;> omega) | fail) only [go_sem, simprocAttr]
  refine wcond_dec (fun hc => ?_) (fun hc => ?_)
  · have hlt : i < b.say.length := by omega
    obtain ⟨xd, k, xl, xh, hx, hsx, hkl⟩ := say_at hv (n := i) hlt
    have h73 := c73 ⟨xd, k, xl, xh⟩ b.found (by simp) (by simp; omega)
    have hwb := wid_bd hv hlt
    have h51 := c51 ⟨xd, k, xl, xh⟩
    rw [hsx] at hwb
    have hW : isW b d i = (xd = d ∧ b.found[k]?.getD default ≠ 0) := by unfold isW; rw [hsx]; simp
    have hH : hitB b i = within (b.found[k]?.getD default) xl xh := by unfold hitB; rw [hsx]; simp
    have hcl : (widK b d i).length ≤ 6 := Nat.le_trans (widK_len b d i) (cntK_6 hv d (by omega))
    have hrl := rigK_le b d i
    have h3 : hitI ⟨xd, k, xl, xh⟩ b.found = if b.found[k]?.getD default = 0 then 3 else if hitB b i then 1 else 2 := by rw [hH]; unfold hitI; simp only [Int.toNat_natCast]
    have hskip : ¬ isW b d i → widK b d (i + 1) = widK b d i ∧ rigK b d (i + 1) = rigK b d i := fun h => by
      simp only [widK, rigK, if_neg h, if_neg (fun x : isW b d i ∧ hitB b i = true => h x.1)]
      exact ⟨trivial, rfl⟩
    simp -failIfUnchanged (disch := first | omega | (simp <;> omega) | fail) only [go_sem, simprocAttr, hx]
    refine WGd_bool (fun h1 => ?_) (fun h1 => ?_)
    · have h1' : xd = d := by simpa using h1
      simp -failIfUnchanged (disch := first | omega | (simp <;> omega) | fail) only [go_sem, simprocAttr, h1]
      refine wcall h73 ?_
      by_cases h2 : b.found[k]?.getD default = 0
      · rw [h3, if_pos h2]
        obtain ⟨e1, e2⟩ := hskip (by rw [hW]; exact fun x => x.2 h2)
        simp -failIfUnchanged (disch := first | omega | (simp <;> omega) | fail) only [go_sem, simprocAttr, h1, eq_self]
        refine ⟨i + 1, by dsimp only; omega, by dsimp only; omega, ?_⟩
        dsimp only
        rw [e1, e2]
        simp -failIfUnchanged (disch := first | omega | (simp <;> omega) | fail) only [go_sem, simprocAttr]
        try simp
      · have hyes : isW b d i := by rw [hW]; exact ⟨h1', h2⟩
        obtain ⟨w, hwN⟩ : ∃ w : Nat, wid ⟨xd, k, xl, xh⟩ = w := ⟨(wid ⟨xd, k, xl, xh⟩).toNat, by omega⟩
        have hwk : widK b d (i + 1) = widK b d i ++ [w] := by
          simp only [widK, if_pos hyes]
          rw [hsx, hwN]
          rfl
        rw [hwN] at h51
        rw [if_neg h2] at h3
        cases hb : hitB b i with
        | true =>
          rw [hb, if_pos rfl] at h3
          rw [h3] at h73 ⊢
          have er : rigK b d (i + 1) = rigK b d i + 1 := by simp only [rigK, if_pos (And.intro hyes hb)]
          simp -failIfUnchanged (disch := first | omega | (simp <;> omega) | fail) only [go_sem, simprocAttr, h1, hx]
          refine wcall h51 ?_
          simp -failIfUnchanged (disch := first | omega | (simp <;> omega) | fail) only [go_sem, simprocAttr]
          refine wcall h73 ?_
          simp -failIfUnchanged (disch := first | omega | (simp <;> omega) | fail) only [go_sem, simprocAttr, eq_self]
          refine ⟨i + 1, by dsimp only; omega, by dsimp only; omega, ?_⟩
          dsimp only
          rw [er, hwk]
          simp -failIfUnchanged (disch := first | omega | (simp <;> omega) | fail) only [go_sem, simprocAttr]
          simp
        | false =>
          rw [hb, if_neg Bool.false_ne_true] at h3
          rw [h3] at h73 ⊢
          have er : rigK b d (i + 1) = rigK b d i := by simp only [rigK]; rw [if_neg (fun x => by rw [hb] at x; exact Bool.false_ne_true x.2)]; rfl
          simp -failIfUnchanged (disch := first | omega | (simp <;> omega) | fail) only [go_sem, simprocAttr, h1, hx]
          refine wcall h51 ?_
          simp -failIfUnchanged (disch := first | omega | (simp <;> omega) | fail) only [go_sem, simprocAttr]
          refine wcall h73 ?_
          simp -failIfUnchanged (disch := first | omega | (simp <;> omega) | fail) only [go_sem, simprocAttr]
          refine ⟨i + 1, by dsimp only; omega, by dsimp only; omega, ?_⟩
          dsimp only
          rw [er, hwk]
          simp -failIfUnchanged (disch := first | omega | (simp <;> omega) | fail) only [go_sem, simprocAttr]
          simp
    · have h1' : ¬ xd = d := by simpa using h1
      simp -failIfUnchanged (disch := first | omega | (simp <;> omega) | fail) only [go_sem, simprocAttr, h1]
      refine ⟨i + 1, by dsimp only; omega, by dsimp only; omega, ?_⟩
      obtain ⟨e1, e2⟩ := hskip (by rw [hW]; exact fun x => h1' x.1)
      dsimp only
      rw [e1, e2]
      simp -failIfUnchanged (disch := first | omega | (simp <;> omega) | fail) only [go_sem, simprocAttr]
      try simp
  · have e : i = b.say.length := by omega
    subst e
    simp -failIfUnchanged (disch := first | omega | (simp <;> omega) | fail) only [go_sem, simprocAttr]
    simp [wids, rig]

theorem prodN_le {D : Nat} {l : List Nat} (h : ∀ w ∈ l, w ≤ D) : prodN l ≤ D ^ l.length := by
  induction l with
  | nil => simp [prodN]
  | cons x r ih =>
    rw [prodN, List.length_cons, Nat.pow_succ, Nat.mul_comm (D ^ r.length)]
    exact Nat.mul_le_mul (h x (by simp)) (ih fun w hw => h w (by simp [hw]))
theorem prodN_take (l : List Nat) {i : Nat} (h : i < l.length) : prodN (l.take (i + 1)) = prodN (l.take i) * nth l i := by
  rw [List.take_add_one, List.getElem?_eq_getElem h]
  show prodN (l.take i ++ [l[i]]) = _
  rw [prodN_snoc]
  simp [nth, h]

theorem hit_cross {D w : Nat} (hD : 1 ≤ D) (hw : w ≤ D) (ws : List Nat) (r : Nat) : chcA D (ws ++ [w]) (r + 1) * chcB D ws r ≤ chcA D ws r * chcB D (ws ++ [w]) (r + 1) := by
  refine low_cross (Nat.pow_pos (by omega)) (Nat.pow_pos (by omega)) ?_
  have e : D ^ (ws ++ [w]).length = D * D ^ ws.length := by rw [List.length_append, List.length_singleton, Nat.pow_succ, Nat.mul_comm]
  rw [e, ← Nat.mul_assoc]
  exact Nat.mul_le_mul_right _ (tS_hit hw ws r)
theorem miss_cross {D w : Nat} (hD : 1 ≤ D) (hw : w ≤ D) (ws : List Nat) (r : Nat) : chcA D ws r * chcB D (ws ++ [w]) r ≤ chcA D (ws ++ [w]) r * chcB D ws r := by
  refine low_cross (Nat.pow_pos (by omega)) (Nat.pow_pos (by omega)) ?_
  have e : D ^ (ws ++ [w]).length = D * D ^ ws.length := by rw [List.length_append, List.length_singleton, Nat.pow_succ, Nat.mul_comm]
  rw [e, ← Nat.mul_assoc]
  exact Nat.mul_le_mul_right _ (tS_miss hw ws r)
theorem chc_num {D : Nat} {ws : List Nat} {r : Nat} (hw : ∀ w ∈ ws, w ≤ D) (hD : D ≤ 12) (hl : ws.length ≤ 6) : chcA D ws r ≤ 2985984 ∧ chcB D ws r ≤ 2985984 := by
  have h1 := chc_le (D := D) (r := r) hw
  have h2 := chcB_le D ws r
  have h3 := pow6 hD hl
  omega

theorem crossQ {D : Nat} {ws vs : List Nat} {r s : Nat} (h1 : chcA D ws r ≤ 2985984 ∧ chcB D ws r ≤ 2985984) (h2 : chcA D vs s ≤ 2985984 ∧ chcB D vs s ≤ 2985984) (h : chcA D ws r * chcB D vs s ≤ chcA D vs s * chcB D ws r) : decide (w64 ((chcN D ws r).a * (chcN D vs s).b) ≤ w64 ((chcN D vs s).a * (chcN D ws r).b)) = true := by
  rw [chc_eq D ws r, chc_eq D vs s]
  dsimp only
  have e1 : ((chcA D ws r : Nat) : Int) * ((chcB D vs s : Nat) : Int) = ((chcA D ws r * chcB D vs s : Nat) : Int) := by simp
  have e2 : ((chcA D vs s : Nat) : Int) * ((chcB D ws r : Nat) : Int) = ((chcA D vs s * chcB D ws r : Nat) : Int) := by simp
  rw [e1, e2]
  have l1 : chcA D ws r * chcB D vs s ≤ 2985984 * 2985984 := Nat.mul_le_mul h1.1 h2.2
  have l2 : chcA D vs s * chcB D ws r ≤ 2985984 * 2985984 := Nat.mul_le_mul h2.1 h1.2
  rw [w64_id (by omega), w64_id (by omega)]
  exact decide_eq_true (by omega)

theorem c4 (b : Bk) (d lo hi f : Int) : Ctr Try.prog 4 [DB b, .agg [.int d, .int lo, .int hi, .int f]] (.bool true) := by
  refine ctr_of_wp hmix Try.func4 m4 rfl ?_
  unfold v4
  simp -failIfUnchanged (disch := first | omega | (simp <;> omega) | fail) only [go_sem, simprocAttr]
  refine wcall (c25 b) ?_
  cases hr : (!hugeB b && checkB b) with
  | false =>
    simp -failIfUnchanged (disch := first | omega | (simp <;> omega) | fail) only [go_sem, simprocAttr]
    refine wcall c17 ?_
    simp -failIfUnchanged (disch := first | omega | (simp <;> omega) | fail) only [go_sem, simprocAttr]
  | true =>
    simp only [Bool.and_eq_true, Bool.not_eq_true'] at hr
    obtain ⟨h1, h2⟩ := huge_false hr.1
    have hcb := hr.2
    have hv := bv_of hcb
    have hn : b.say.length < 4294967296 := by omega
    simp -failIfUnchanged (disch := first | omega | (simp <;> omega) | fail) only [go_sem, simprocAttr]
    refine wcall (c16 b d) ?_
    cases hd : within d 0 (w64 (b.dow - 1)) with
    | false =>
      simp -failIfUnchanged (disch := first | omega | (simp <;> omega) | fail) only [go_sem, simprocAttr]
      refine wcall c17 ?_
      simp -failIfUnchanged (disch := first | omega | (simp <;> omega) | fail) only [go_sem, simprocAttr]
    | true =>
      obtain ⟨hD1, hD2, hD3⟩ := dN_bd hv
      have k1 := c26 b hn d
      have e3 : dE b d = 0 := ask_of hcb hd
      unfold chaR at k1
      simp only [e3, if_true] at k1
      have k2 := c27 hD1 hD2 (wids_bd hv d) (wids_6 hv d) (rigK_le b d b.say.length)
      change Ctr Try.prog 27 [PR (chcN (dN b) (wids b d) (rig b d))] (.bool true) at k2
      have k3 := c28 b hv hn d
      have hwb := wids_bd hv d
      have hw6 := wids_6 hv d
      have hrl : rig b d ≤ (wids b d).length := rigK_le b d b.say.length
      have k4 := c30 b (by omega) (by omega) d lo hi f
      have hnum := chc_num (r := rig b d) (wids_le hv d) hD2 hw6
      obtain ⟨D, hD⟩ : ∃ D, dN b = D := ⟨_, rfl⟩
      obtain ⟨ws, hws⟩ : ∃ ws, wids b d = ws := ⟨_, rfl⟩
      obtain ⟨r, hrr⟩ : ∃ r, rig b d = r := ⟨_, rfl⟩
      rw [hD] at hD1 hD2 hD3 k1 k2 hwb hnum
      rw [hws] at k1 k2 k3 hwb hw6 hrl hnum
      rw [hrr] at k1 k2 k3 hrl hnum
      have hwl : ∀ w ∈ ws, w ≤ D := fun w hw => (hwb w hw).2
      have hlen : (nI ws).length = ws.length := nI_len ws
      obtain ⟨C, hC⟩ : ∃ C, chcN D ws r = C := ⟨_, rfl⟩
      rw [hC] at k1 k2
      have hl0 : r = ws.length → low (prodN ws) (D ^ ws.length) = C := fun e => by
        rw [← hC, e]
        show _ = low (tS D ws ws.length) (D ^ ws.length)
        rw [tS_last]
      have h00 : r = 0 → C.a = 1 ∧ C.b = 1 := fun e => by
        rw [← hC, e]
        have hs : ((caseN D ws).drop 0).sum = D ^ ws.length := by rw [List.drop_zero, caseN_sum D ws hwl]
        unfold chcN low
        rw [hs, Nat.gcd_self]
        have : D ^ ws.length / D ^ ws.length = 1 := Nat.div_self (Nat.pow_pos (by omega))
        rw [this]
        exact ⟨rfl, rfl⟩
      simp -failIfUnchanged (disch := first | omega | (simp <;> omega) | fail) only [go_sem, simprocAttr]
      refine wcall k1 ?_
      simp -failIfUnchanged (disch := first | omega | (simp <;> omega) | fail) only [go_sem, simprocAttr]
      refine wcall k2 ?_
      simp -failIfUnchanged (disch := first | omega | (simp <;> omega) | fail) only [go_sem, simprocAttr]
      refine wcall k3 ?_
      simp -failIfUnchanged (disch := first | omega | (simp <;> omega) | fail) only [go_sem, simprocAttr]
      refine wp_loop' Nat (fun i => ⟨[(2, .ptr 2 0), (3, .ptr 3 0), (5, .ptr 5 0), (7, IS (nI ws)), (8, .int r), (9, .int (prodN (ws.take i) : Nat)), (10, .int (D ^ i : Nat)), (11, .int i)], [(5, ⟨[.int C.a, .int C.b], false⟩), (3, ⟨[.int d, .int lo, .int hi, .int f], false⟩), (2, ⟨[.int b.depth, IS b.found, .int b.dow, SL b.say, .int b.pence], false⟩)], [], none⟩) (fun i => i ≤ ws.length) (fun i => ws.length - i) 0 (by simp) (by simp -failIfUnchanged (disch := first | omega | (simp <;> omega) | fail) only [go_sem, simprocAttr]; simp [prodN]) ?_
      intro i hi'
      have hi' : i ≤ ws.length := hi'
      simp -failIfUnchanged (disch := first | omega | (simp <;> omega) | fail) only [go_sem, simprocAttr]
      refine wcond_dec (fun hc => ?_) (fun hc => ?_)
      · have hlt : i < ws.length := by omega
        have g1 : (nI ws)[i]?.getD default = ((nth ws i : Nat) : Int) := nI_get ws i
        have p1 := prodN_le (l := ws.take i) (D := D) fun w hw => hwl w (List.mem_of_mem_take hw)
        have p2 : (ws.take i).length = i := by rw [List.length_take]; omega
        rw [p2] at p1
        have p3 := pow6 hD2 (n := i) (by omega)
        have p4 : nth ws i ≤ 12 := by
          have := hwl (nth ws i) (by unfold nth; rw [List.getElem?_eq_getElem hlt]; exact List.getElem_mem _)
          omega
        have p5 := prodN_take ws hlt
        have s1 : ((prodN (ws.take i) : Nat) : Int) * ((nth ws i : Nat) : Int) = ((prodN (ws.take (i + 1)) : Nat) : Int) := by rw [p5, Int.natCast_mul]
        have s2 : ((D ^ i : Nat) : Int) * b.depth = ((D ^ (i + 1) : Nat) : Int) := by rw [← hD3, Nat.pow_succ, Int.natCast_mul]
        have p6 : prodN (ws.take (i + 1)) ≤ 2985984 * 12 := by rw [p5]; exact Nat.mul_le_mul (by omega) p4
        have p7 : D ^ (i + 1) ≤ 2985984 * 12 := by rw [Nat.pow_succ]; exact Nat.mul_le_mul p3 hD2
        have w1 : w64 ((prodN (ws.take (i + 1)) : Nat) : Int) = ((prodN (ws.take (i + 1)) : Nat) : Int) := w64_id (by omega)
        have w2 : w64 ((D ^ (i + 1) : Nat) : Int) = ((D ^ (i + 1) : Nat) : Int) := w64_id (by omega)
        simp -failIfUnchanged (disch := first | omega | (simp <;> omega) | fail) only [go_sem, simprocAttr, g1, s1, s2, w1, w2]
        refine ⟨i + 1, by dsimp only; omega, by dsimp only; omega, ?_⟩
        simp -failIfUnchanged (disch := first | omega | (simp <;> omega) | fail) only [go_sem, simprocAttr]
        try simp
      · have e : i = ws.length := by omega
        subst e
        rw [List.take_length]
        have p1 := prodN_le hwl
        have p3 := pow6 hD2 hw6
        have k5 := c29 (prodN ws) (D ^ ws.length) (Nat.pow_pos (by omega)) (by omega) (by omega)
        simp -failIfUnchanged (disch := first | omega | (simp <;> omega) | fail) only [go_sem, simprocAttr]
        refine tailed (T := ?Tx) (fun tail => ?mx) ?tx
        case mx =>
          refine WGd_bool (fun g1 => ?_) (fun g1 => ?_)
          · have g1' : r = ws.length := by have := of_decide_eq_true g1; omega
            rw [hl0 g1'] at k5
            simp -failIfUnchanged (disch := first | omega | (simp <;> omega) | fail) only [go_sem, simprocAttr, g1]
            refine wcall k5 ?_
            simp -failIfUnchanged (disch := first | omega | (simp <;> omega) | fail) only [go_sem, simprocAttr, g1, eq_self]
            refine WGd_bool (fun g2 => ?_) (fun g2 => ?_)
            · obtain ⟨c1, c2⟩ := h00 (by have := of_decide_eq_true g2; omega)
              have e9 : decide (¬ (C.a = 1 ∧ C.b = 1)) = false := decide_eq_false (not_not_intro ⟨c1, c2⟩)
              simp -failIfUnchanged (disch := first | omega | (simp <;> omega) | fail) only [go_sem, simprocAttr, g1, g2, e9]
              exact tail.out
            · simp -failIfUnchanged (disch := first | omega | (simp <;> omega) | fail) only [go_sem, simprocAttr, g1, g2]
              exact tail.out
          · simp -failIfUnchanged (disch := first | omega | (simp <;> omega) | fail) only [go_sem, simprocAttr, g1]
            refine WGd_bool (fun g2 => ?_) (fun g2 => ?_)
            · obtain ⟨c1, c2⟩ := h00 (by have := of_decide_eq_true g2; omega)
              have e9 : decide (¬ (C.a = 1 ∧ C.b = 1)) = false := decide_eq_false (not_not_intro ⟨c1, c2⟩)
              simp -failIfUnchanged (disch := first | omega | (simp <;> omega) | fail) only [go_sem, simprocAttr, g1, g2, e9]
              exact tail.out
            · simp -failIfUnchanged (disch := first | omega | (simp <;> omega) | fail) only [go_sem, simprocAttr, g1, g2]
              exact tail.out
        case tx =>
          refine wcall k4 ?_
          cases hro : witO b d lo hi f with
          | false =>
            simp -failIfUnchanged (disch := first | omega | (simp <;> omega) | fail) only [go_sem, simprocAttr]
            refine wcall c17 ?_
            simp -failIfUnchanged (disch := first | omega | (simp <;> omega) | fail) only [go_sem, simprocAttr]
          | true =>
            have hro' := hro
            unfold witO at hro'
            simp only [Bool.and_eq_true, decide_eq_true_eq] at hro'
            obtain ⟨hco, hf⟩ := hro'
            have hvo := bv_of hco
            have hno : (witB b d lo hi f).say.length < 4294967296 := by
              show (insS _ _).length < _
              rw [insS_len]; omega
            have m1 := c26 (witB b d lo hi f) hno d
            have f3 : dE (witB b d lo hi f) d = 0 := ask_of hco hd
            unfold chaR at m1
            simp only [f3, if_true] at m1
            obtain ⟨v1, v2⟩ := wit_wids hv (d := d) (lo := lo) (hi := hi) hf
            have v3 := wids_bd hvo d
            have v4 := wids_6 hvo d
            have v5 : rig (witB b d lo hi f) d ≤ (wids (witB b d lo hi f) d).length := rigK_le (witB b d lo hi f) d (witB b d lo hi f).say.length
            have v6 : dN (witB b d lo hi f) = D := hD
            rw [hws] at v1
            rw [hrr] at v2
            obtain ⟨w, hw0⟩ : ∃ w, (wid ⟨d, (b.found.length : Int), lo, hi⟩).toNat = w := ⟨_, rfl⟩
            rw [hw0] at v1
            rw [v6] at v3 m1
            rw [v1] at v3 v4 v5 m1
            rw [v2] at v5 m1
            have hwD : w ≤ D := (v3 w (by simp)).2
            have m2 := c27 (r := r + if within f lo hi = true then 1 else 0) hD1 hD2 v3 v4 v5
            change Ctr Try.prog 27 [PR (chcN D (ws ++ [w]) (r + if within f lo hi = true then 1 else 0))] (.bool true) at m2
            have x1 := hit_cross hD1 hwD ws r
            have x2 := miss_cross hD1 hwD ws r
            have n1 := chc_num (r := r + if within f lo hi = true then 1 else 0) (fun w hw => (v3 w hw).2) hD2 v4
            simp -failIfUnchanged (disch := first | omega | (simp <;> omega) | fail) only [go_sem, simprocAttr]
            refine wcall m1 ?_
            simp -failIfUnchanged (disch := first | omega | (simp <;> omega) | fail) only [go_sem, simprocAttr]
            refine wcall m2 ?_
            simp -failIfUnchanged (disch := first | omega | (simp <;> omega) | fail) only [go_sem, simprocAttr]
            refine wcall (c20 f lo hi) ?_
            cases hwt : within f lo hi with
            | true =>
              have hq : decide (w64 ((chcN D (ws ++ [w]) (r + 1)).a * C.b) ≤ w64 (C.a * (chcN D (ws ++ [w]) (r + 1)).b)) = true := by
                rw [hwt] at n1
                rw [← hC]
                exact crossQ n1 hnum x1
              simp -failIfUnchanged (disch := first | omega | (simp <;> omega) | fail) only [go_sem, simprocAttr, hq]
              refine wcall c17 ?_
              simp -failIfUnchanged (disch := first | omega | (simp <;> omega) | fail) only [go_sem, simprocAttr]
            | false =>
              have hq : decide (w64 (C.a * (chcN D (ws ++ [w]) r).b) ≤ w64 ((chcN D (ws ++ [w]) r).a * C.b)) = true := by
                rw [hwt] at n1
                rw [← hC]
                exact crossQ hnum n1 x2
              simp -failIfUnchanged (disch := first | omega | (simp <;> omega) | fail) only [go_sem, simprocAttr, hq]
              refine wcall c17 ?_
              simp -failIfUnchanged (disch := first | omega | (simp <;> omega) | fail) only [go_sem, simprocAttr]

end Go.Proofs.Ytmcfibpeenhcnaa


/- The document's chance. -/
set_option linter.unusedSimpArgs false
set_option linter.unusedVariables false
set_option linter.unnecessarySimpa false
namespace Go.Proofs.Ytmcfibpeenhcnaa
open Go Go.V

theorem caseN_take_succ (D : Nat) (ws : List Nat) {i : Nat} (h : i < ws.length) : caseN D (ws.take (i + 1)) = stepN D (caseN D (ws.take i)) (nth ws i) := by
  rw [List.take_add_one, List.getElem?_eq_getElem h]
  show caseN D (ws.take i ++ [ws[i]]) = _
  rw [caseN_snoc]
  simp [nth, h]

set_option maxHeartbeats 1600000 in
theorem c96 {D : Nat} {ws : List Nat} (hD : 1 ≤ D) (hD2 : D ≤ 12) (hw : ∀ w ∈ ws, w ≤ D) (hl : ws.length ≤ 12) {r : Nat} (hr : r ≤ ws.length) : Ctr Try.prog 96 [.int D, IS (nI ws), .int r] (PR (chcN D ws r)) := by
  refine ctr_of_wp hmix Try.func96 m96w rfl ?_
  unfold v96w
  have hwl : (nI ws).length = ws.length := nI_len ws
  simp -failIfUnchanged (disch := first | omega | (simp <;> omega) | fail) only [go_sem, simprocAttr]
  refine wp_loop' Nat (fun i => ⟨[(0, .int D), (1, IS (nI ws)), (2, .int r), (6, .ptr 6 0), (7, IS (nI (caseN D (ws.take i)))), (8, .int (D ^ i : Nat)), (9, .int i)], [(6, ⟨[.int 0, .int 0], false⟩)], [], none⟩) (fun i => i ≤ ws.length) (fun i => ws.length - i) 0 (by simp) (by simp -failIfUnchanged (disch := first | omega | (simp <;> omega) | fail) only [go_sem, simprocAttr]; simp [caseN]) ?_
  intro i hi
  have hi : i ≤ ws.length := hi
  obtain ⟨hcs, hcb⟩ := case_bd (ws := ws.take i) hD2 (fun w h => hw w (List.mem_of_mem_take h)) (by rw [List.length_take]; omega)
  have htl : (ws.take i).length = i := by rw [List.length_take]; omega
  have hclen : (caseN D (ws.take i)).length = i + 1 := by rw [caseN_len, htl]
  rw [htl] at hcs hcb
  simp -failIfUnchanged (disch := first | omega | (simp <;> omega) | fail) only [go_sem, simprocAttr]
  refine wcond_dec (fun hc => ?_) (fun hc => ?_)
  · have hlt : i < ws.length := by omega
    have hsucc := caseN_take_succ D ws hlt
    obtain ⟨w, hww⟩ : ∃ w, nth ws i = w := ⟨_, rfl⟩
    have hwD : w ≤ D := by
      rw [← hww]
      exact hw _ (by unfold nth; rw [List.getElem?_eq_getElem hlt]; exact List.getElem_mem _)
    have gw : (nI ws)[i]?.getD default = (w : Int) := by rw [nI_get, hww]
    rw [hww] at hsucc
    have hpow : D ^ i * D = D ^ (i + 1) := (Nat.pow_succ ..).symm
    obtain ⟨cs, hcse⟩ : ∃ cs, caseN D (ws.take i) = cs := ⟨_, rfl⟩
    rw [hcse] at hcs hclen hsucc
    rw [hcse]
    have hB : cs.sum * D ≤ 106993205379072 := by
      rw [hcs]
      calc D ^ i * D ≤ 8916100448256 * 12 := Nat.mul_le_mul hcb hD2
        _ = 106993205379072 := by decide
    have hci : (nI cs).length = cs.length := nI_len cs
    generalize nI ws = W at *
    simp -failIfUnchanged (disch := first | omega | (simp <;> omega) | fail) only [go_sem, simprocAttr]
    refine wp_loop' Nat (fun k => ⟨[(0, .int D), (1, IS W), (2, .int r), (6, .ptr 6 0), (7, IS (nI cs)), (8, .int (D ^ i : Nat)), (9, .int i), (10, .bsl 24 0 1 (cs.length + 1) false), (11, .int k)], [(24, ⟨(nI (outG D cs w k)).map .int, false⟩), (6, ⟨[.int 0, .int 0], false⟩)], [], none⟩) (fun k => k ≤ cs.length) (fun k => cs.length - k) 0 (by simp) (by simp -failIfUnchanged (disch := first | omega | (simp <;> omega) | fail) only [go_sem, simprocAttr, outG_0, scopes_ints]; try simp) ?_
    intro k hk
    have hk : k ≤ cs.length := hk
    have hgl := outG_len D cs w k
    have hgl2 : (nI (outG D cs w k)).length = cs.length + 1 := by rw [nI_len]; exact hgl
    simp -failIfUnchanged (disch := first | omega | (simp <;> omega) | fail) only [go_sem, simprocAttr]
    refine wcond_dec (fun hc2 => ?_) (fun hc2 => ?_)
    · have hkt : k < cs.length := by omega
      have b0 := nth_le cs k
      have b1 : nth cs k * D ≤ cs.sum * D := Nat.mul_le_mul_right _ b0
      have b2 : nth cs k * (D - w) ≤ nth cs k * D := Nat.mul_le_mul_left _ (by omega)
      have b3 : nth cs k * w ≤ nth cs k * D := Nat.mul_le_mul_left _ hwD
      have v1 : nth (outG D cs w k) k ≤ 1000000000000000 := by
        rw [outG_nth _ _ _ _ _ (by omega), if_neg (by omega)]
        by_cases e : k = 0
        · rw [if_pos (.inl e)]; omega
        · rw [if_neg (by omega)]
          have c0 := nth_le cs (k - 1)
          have c1 : nth cs (k - 1) * D ≤ cs.sum * D := Nat.mul_le_mul_right _ c0
          have c2 : nth cs (k - 1) * w ≤ nth cs (k - 1) * D := Nat.mul_le_mul_left _ hwD
          omega
      have v2 : nth (outG D cs w k) (k + 1) = 0 := by
        rw [outG_nth _ _ _ _ _ (by omega), if_neg (by omega), if_pos (by omega)]
      have hset := outG_set D cs w k hkt
      have s1 : ((D : Int) - (w : Int)) = ((D - w : Nat) : Int) := by omega
      have s2 : ((nth cs k : Nat) : Int) * ((D - w : Nat) : Int) = ((nth cs k * (D - w) : Nat) : Int) := by rw [Int.natCast_mul]
      have s3 : ((nth cs k : Nat) : Int) * (w : Int) = ((nth cs k * w : Nat) : Int) := by rw [Int.natCast_mul]
      have s4 : ((nth (outG D cs w k) k : Nat) : Int) + ((nth cs k * (D - w) : Nat) : Int) = ((nth (outG D cs w k) k + nth cs k * (D - w) : Nat) : Int) := by omega
      have s5 : ((nth (outG D cs w k) (k + 1) : Nat) : Int) + ((nth cs k * w : Nat) : Int) = ((nth (outG D cs w k) (k + 1) + nth cs k * w : Nat) : Int) := by omega
      have hset2 : ((nI (outG D cs w k)).set k ((nth (outG D cs w k) k + nth cs k * (D - w) : Nat) : Int)).set (k + 1) ((nth (outG D cs w k) (k + 1) + nth cs k * w : Nat) : Int) = nI (outG D cs w (k + 1)) := by rw [nI_set, nI_set, hset]
      have g1 : (nI cs)[k]?.getD default = ((nth cs k : Nat) : Int) := nI_get cs k
      have g2 : (nI (outG D cs w k))[k]?.getD default = ((nth (outG D cs w k) k : Nat) : Int) := nI_get _ _
      have g3 : ((nI (outG D cs w k)).set k ((nth (outG D cs w k) k + nth cs k * (D - w) : Nat) : Int))[k + 1]?.getD default = ((nth (outG D cs w k) (k + 1) : Nat) : Int) := by rw [List.getElem?_set_ne (by omega)]; exact nI_get _ _
      obtain ⟨L2, hL2⟩ : ∃ L2, nI (outG D cs w (k + 1)) = L2 := ⟨_, rfl⟩
      rw [hL2] at hset2
      generalize nI (outG D cs w k) = L at *
      generalize nth (outG D cs w k) k = x1 at *
      generalize nth (outG D cs w k) (k + 1) = x2 at *
      generalize nI cs = C at *
      have w1 : w64 ((nth cs k * (D - w) : Nat) : Int) = ((nth cs k * (D - w) : Nat) : Int) := w64_id (by omega)
      have w2 : w64 ((nth cs k * w : Nat) : Int) = ((nth cs k * w : Nat) : Int) := w64_id (by omega)
      generalize nth cs k * (D - w) = y1 at *
      generalize nth cs k * w = y2 at *
      simp -failIfUnchanged (disch := first | omega | (simp <;> omega) | fail) only [go_sem, simprocAttr, g1, g2, g3, gw, s1, s2, s3, s4, s5, w1, w2, hgl2, List.length_set, hset2]
      refine ⟨k + 1, by dsimp only; omega, by dsimp only; omega, ?_⟩
      dsimp only
      rw [hL2]
      simp -failIfUnchanged (disch := first | omega | (simp <;> omega) | fail) only [go_sem, simprocAttr, scopes_ints]
      try simp
    · have e : k = cs.length := by omega
      subst e
      rw [outG_n] at hgl2 ⊢
      have s6 : ((D ^ i : Nat) : Int) * (D : Int) = ((D ^ (i + 1) : Nat) : Int) := by rw [← hpow, Int.natCast_mul]
      have hp2 : D ^ (i + 1) ≤ 106993205379072 := by rw [← hpow, ← hcs]; exact hB
      simp -failIfUnchanged (disch := first | omega | (simp <;> omega) | fail) only [go_sem, simprocAttr, s6]
      refine wopsN [24] ?_
      simp -failIfUnchanged (disch := first | omega | (simp <;> omega) | fail) only [go_sem, simprocAttr, chunks_ints, hgl2, Nat.le_refl, s6]
      refine ⟨i + 1, by dsimp only; omega, by dsimp only; omega, ?_⟩
      dsimp only
      rw [hsucc]
      simp -failIfUnchanged (disch := first | omega | (simp <;> omega) | fail) only [go_sem, simprocAttr]
      try simp
  · have e : i = ws.length := by omega
    subst e
    rw [List.take_length] at hclen ⊢
    have hcs2 : (caseN D ws).sum = D ^ ws.length := by rw [List.take_length] at hcs; exact hcs
    have hds := drop_sum (caseN D ws) r
    have hA : 0 < D ^ ws.length := Nat.pow_pos (by omega)
    have h29 := c29 ((caseN D ws).drop r).sum (D ^ ws.length) hA (by omega) (by omega)
    change Ctr Try.prog 29 _ (PR (chcN D ws r)) at h29
    have hcl := nI_len (caseN D ws)
    have hdl : ((caseN D ws).drop r).length = ws.length + 1 - r := by rw [List.length_drop, hclen]
    obtain ⟨ds, hdse⟩ : ∃ ds, (caseN D ws).drop r = ds := ⟨_, rfl⟩
    have hgd : ∀ j, (nI (caseN D ws))[r + j]?.getD default = ((nth ds j : Nat) : Int) := fun j => by
      rw [nI_get, ← hdse]
      simp [nth, List.getElem?_drop]
    rw [hdse] at hdl hds h29
    simp -failIfUnchanged (disch := first | omega | (simp <;> omega) | fail) only [go_sem, simprocAttr]
    refine wp_loop' Nat (fun j => ⟨[(6, .ptr 6 0), (7, IS (nI (caseN D ws))), (8, .int (D ^ ws.length : Nat)), (12, .int ((ds.take j).sum : Nat)), (13, .int ((r + j : Nat) : Int))], [(6, ⟨[.int 0, .int 0], false⟩)], [], none⟩) (fun j => j ≤ ds.length) (fun j => ds.length - j) 0 (by simp) (by simp -failIfUnchanged (disch := first | omega | (simp <;> omega) | fail) only [go_sem, simprocAttr]; try simp) ?_
    intro j hj
    have hj : j ≤ ds.length := hj
    simp -failIfUnchanged (disch := first | omega | (simp <;> omega) | fail) only [go_sem, simprocAttr]
    refine wcond_dec (fun hc2 => ?_) (fun hc2 => ?_)
    · have hlt : j < ds.length := by omega
      have g1 := hgd j
      have t1 := take_sum_le ds j
      have t2 := take_sum_succ ds j hlt
      have t3 := take_sum_le ds (j + 1)
      simp -failIfUnchanged (disch := first | omega | (simp <;> omega) | fail) only [go_sem, simprocAttr, g1]
      refine ⟨j + 1, by dsimp only; omega, by dsimp only; omega, ?_⟩
      dsimp only
      rw [t2]
      simp -failIfUnchanged (disch := first | omega | (simp <;> omega) | fail) only [go_sem, simprocAttr]
      try simp
      try omega
    · have e : j = ds.length := by omega
      subst e
      rw [List.take_length]
      simp -failIfUnchanged (disch := first | omega | (simp <;> omega) | fail) only [go_sem, simprocAttr]
      refine wcall h29 ?_
      simp -failIfUnchanged (disch := first | omega | (simp <;> omega) | fail) only [go_sem, simprocAttr]

theorem c83 (b : Bk) (hv : BV b) (hn : b.say.length < 4294967296) (d : Int) (u n : Nat) (hu : u ≤ dN b) (h6 : n ≤ 6) :
    Ctr Try.prog 83 [DB b, .int d, .int u, .int n] (PR (chcN (dN b) (wids b d ++ List.replicate n u) (rig b d + n))) := by
  refine ctr_of_wp hmix Try.func83 m83w rfl ?_
  unfold v83w
  simp -failIfUnchanged (disch := first | omega | (simp <;> omega) | fail) only [go_sem, simprocAttr]
  refine wcall_in hmix Try.func28 m28w rfl ?_
  unfold v28w
  simp -failIfUnchanged (disch := first | omega | (simp <;> omega) | fail) only [go_sem, simprocAttr]
  refine wp_loopX Nat (fun i => ⟨[(1, .int d), (2, .ptr 5002 0), (4, .gsl 1 0 (widK b d i).length 1 (widK b d i).length false), (5, .int (rigK b d i)), (6, .int i)], [(K 1 0 (widK b d i).length, ⟨(nI (widK b d i)).map .int, false⟩), (5002, ⟨[.int b.depth, IS b.found, .int b.dow, SL b.say, .int b.pence], false⟩), (8, ⟨[.int 0, .int 0], false⟩), (4, ⟨[.int b.depth, IS b.found, .int b.dow, SL b.say, .int b.pence], false⟩)], [], none⟩) (fun i => i ≤ b.say.length) (fun i => b.say.length - i) 0 (by simp) (by simp -failIfUnchanged (disch := first | omega | (simp <;> omega) | fail) only [go_sem, simprocAttr]; simp [widK, rigK, leV]) (fun i => by simp -failIfUnchanged (disch := first | omega | (simp <;> omega) | fail) only [go_sem, simprocAttr]; try simp) ?_
  intro i hi
  have hi : i ≤ b.say.length := hi
  simp -failIfUnchanged (disch := first | omega | (simp <;> omega) | fail) only [go_sem, simprocAttr]
  refine wcond_dec (fun hc => ?_) (fun hc => ?_)
  · have hlt : i < b.say.length := by omega
    obtain ⟨xd, k, xl, xh, hx, hsx, hkl⟩ := say_at hv (n := i) hlt
    have h73 := c73 ⟨xd, k, xl, xh⟩ b.found (by simp) (by simp; omega)
    have hwb := wid_bd hv hlt
    have h51 := c51 ⟨xd, k, xl, xh⟩
    rw [hsx] at hwb
    have hW : isW b d i = (xd = d ∧ b.found[k]?.getD default ≠ 0) := by unfold isW; rw [hsx]; simp
    have hH : hitB b i = within (b.found[k]?.getD default) xl xh := by unfold hitB; rw [hsx]; simp
    have hcl : (widK b d i).length ≤ 6 := Nat.le_trans (widK_len b d i) (cntK_6 hv d (by omega))
    have hnl := nI_len (widK b d i)
    have hrl := rigK_le b d i
    have h3 : hitI ⟨xd, k, xl, xh⟩ b.found = if b.found[k]?.getD default = 0 then 3 else if hitB b i then 1 else 2 := by rw [hH]; unfold hitI; simp only [Int.toNat_natCast]
    have hskip : ¬ isW b d i → widK b d (i + 1) = widK b d i ∧ rigK b d (i + 1) = rigK b d i := fun h => by
      simp only [widK, rigK, if_neg h, if_neg (fun x : isW b d i ∧ hitB b i = true => h x.1)]
      exact ⟨trivial, rfl⟩
    simp -failIfUnchanged (disch := first | omega | (simp <;> omega) | fail) only [go_sem, simprocAttr, hx]
    refine WGd_bool (fun h1 => ?_) (fun h1 => ?_)
    · have h1' : xd = d := by simpa using h1
      simp -failIfUnchanged (disch := first | omega | (simp <;> omega) | fail) only [go_sem, simprocAttr, h1]
      refine wcall h73 ?_
      by_cases h2 : b.found[k]?.getD default = 0
      · rw [h3, if_pos h2]
        obtain ⟨e1, e2⟩ := hskip (by rw [hW]; exact fun x => x.2 h2)
        simp -failIfUnchanged (disch := first | omega | (simp <;> omega) | fail) only [go_sem, simprocAttr, h1, eq_self]
        refine lpx_norm ⟨i + 1, by omega, by omega, ?_⟩
        rw [e1, e2]
        simp -failIfUnchanged (disch := first | omega | (simp <;> omega) | fail) only [go_sem, simprocAttr, scopes_ints]
        try simp
      · have hyes : isW b d i := by rw [hW]; exact ⟨h1', h2⟩
        obtain ⟨w, hwN⟩ : ∃ w : Nat, wid ⟨xd, k, xl, xh⟩ = w := ⟨(wid ⟨xd, k, xl, xh⟩).toNat, by omega⟩
        have hwk : widK b d (i + 1) = widK b d i ++ [w] := by
          simp only [widK, if_pos hyes]
          rw [hsx, hwN]
          rfl
        rw [hwN] at h51
        rw [if_neg h2] at h3
        cases hb : hitB b i with
        | true =>
          rw [hb, if_pos rfl] at h3
          rw [h3] at h73 ⊢
          have er : rigK b d (i + 1) = rigK b d i + 1 := by simp only [rigK, if_pos (And.intro hyes hb)]
          simp -failIfUnchanged (disch := first | omega | (simp <;> omega) | fail) only [go_sem, simprocAttr, h1, hx]
          refine wcall h51 ?_
          simp -failIfUnchanged (disch := first | omega | (simp <;> omega) | fail) only [go_sem, simprocAttr, hnl]
          refine wcall h73 ?_
          simp -failIfUnchanged (disch := first | omega | (simp <;> omega) | fail) only [go_sem, simprocAttr, eq_self]
          refine lpx_norm ⟨i + 1, by omega, by omega, ?_⟩
          rw [er, hwk]
          simp -failIfUnchanged (disch := first | omega | (simp <;> omega) | fail) only [go_sem, simprocAttr, scopes_ints]
          simp
        | false =>
          rw [hb, if_neg Bool.false_ne_true] at h3
          rw [h3] at h73 ⊢
          have er : rigK b d (i + 1) = rigK b d i := by simp only [rigK]; rw [if_neg (fun x => by rw [hb] at x; exact Bool.false_ne_true x.2)]; rfl
          simp -failIfUnchanged (disch := first | omega | (simp <;> omega) | fail) only [go_sem, simprocAttr, h1, hx]
          refine wcall h51 ?_
          simp -failIfUnchanged (disch := first | omega | (simp <;> omega) | fail) only [go_sem, simprocAttr, hnl]
          refine wcall h73 ?_
          simp -failIfUnchanged (disch := first | omega | (simp <;> omega) | fail) only [go_sem, simprocAttr]
          refine lpx_norm ⟨i + 1, by omega, by omega, ?_⟩
          rw [er, hwk]
          simp -failIfUnchanged (disch := first | omega | (simp <;> omega) | fail) only [go_sem, simprocAttr, scopes_ints]
          simp
    · have h1' : ¬ xd = d := by simpa using h1
      simp -failIfUnchanged (disch := first | omega | (simp <;> omega) | fail) only [go_sem, simprocAttr, h1]
      refine lpx_norm ⟨i + 1, by omega, by omega, ?_⟩
      obtain ⟨e1, e2⟩ := hskip (by rw [hW]; exact fun x => h1' x.1)
      rw [e1, e2]
      simp -failIfUnchanged (disch := first | omega | (simp <;> omega) | fail) only [go_sem, simprocAttr, scopes_ints]
      try simp
  · have e : i = b.say.length := by omega
    subst e
    obtain ⟨hD1, hD2, hD3⟩ := dN_bd hv
    have hw6 := wids_6 hv d
    have hwle := wids_le hv d
    have hrl : rig b d ≤ (wids b d).length := rigK_le b d b.say.length
    obtain ⟨ws, hws⟩ : ∃ ws, wids b d = ws := ⟨_, rfl⟩
    have hws' : widK b d b.say.length = ws := hws
    obtain ⟨r, hrr⟩ : ∃ r, rig b d = r := ⟨_, rfl⟩
    have hrr' : rigK b d b.say.length = r := hrr
    rw [hws] at hw6 hwle hrl
    rw [hrr] at hrl
    simp only [hws', hrr', hws, hrr]
    have hnl := nI_len ws
    have hLw : ∀ k, ∀ w ∈ ws ++ List.replicate k u, w ≤ dN b := by
      intro k w hw
      rcases List.mem_append.1 hw with hw | hw
      · exact hwle w hw
      · have := (List.mem_replicate.1 hw).2
        omega
    have hLl : ∀ k, (ws ++ List.replicate k u).length = ws.length + k := fun k => by simp
    have h96 := c96 (r := r + n) hD1 hD2 (hLw n) (by rw [hLl]; omega) (by rw [hLl]; omega)
    rw [hD3] at h96
    simp -failIfUnchanged (disch := first | omega | (simp <;> omega) | fail) only [go_sem, simprocAttr]
    refine .inr ⟨rfl, rfl, ?_⟩
    simp -failIfUnchanged (disch := first | omega | (simp <;> omega) | fail) only [go_sem, simprocAttr]
    refine wp_loop' Nat (fun k => ⟨[(2, .int u), (3, .int n), (4, .ptr 4 0), (8, .ptr 8 0), (9, .gsl 1 0 (ws.length + k) 1 (ws.length + k) false), (10, .int r), (11, .int k)], [(K 1 0 (ws.length + k), ⟨(nI (ws ++ List.replicate k u)).map .int, false⟩), (8, ⟨[.int 0, .int 0], false⟩), (4, ⟨[.int b.depth, IS b.found, .int b.dow, SL b.say, .int b.pence], false⟩)], [], none⟩) (fun k => k ≤ n) (fun k => n - k) 0 (by simp) (by simp -failIfUnchanged (disch := first | omega | (simp <;> omega) | fail) only [go_sem, simprocAttr]; try simp) ?_
    intro k hk
    have hk : k ≤ n := hk
    have hkl : (nI (ws ++ List.replicate k u)).length = ws.length + k := by rw [nI_len, hLl]
    simp -failIfUnchanged (disch := first | omega | (simp <;> omega) | fail) only [go_sem, simprocAttr]
    refine wcond_dec (fun hc2 => ?_) (fun hc2 => ?_)
    · have hkt : k < n := by omega
      have hap : nI (ws ++ List.replicate (k + 1) u) = nI (ws ++ List.replicate k u) ++ [(u : Int)] := by simp [nI, List.replicate_succ']
      simp -failIfUnchanged (disch := first | omega | (simp <;> omega) | fail) only [go_sem, simprocAttr, hkl]
      refine ⟨k + 1, by dsimp only; omega, by dsimp only; omega, ?_⟩
      dsimp only
      rw [hap, show ws.length + (k + 1) = ws.length + k + 1 by omega]
      simp -failIfUnchanged (disch := first | omega | (simp <;> omega) | fail) only [go_sem, simprocAttr, scopes_ints]
      try simp
    · have e : k = n := by omega
      subst e
      have s1 : (r : Int) + (k : Int) = ((r + k : Nat) : Int) := by omega
      simp -failIfUnchanged (disch := first | omega | (simp <;> omega) | fail) only [go_sem, simprocAttr, chunks_ints, hkl, Nat.le_refl, s1]
      refine wcall h96 ?_
      simp -failIfUnchanged (disch := first | omega | (simp <;> omega) | fail) only [go_sem, simprocAttr]

end Go.Proofs.Ytmcfibpeenhcnaa


/- The document's Chance, Shows, More. -/
set_option linter.unusedSimpArgs false
set_option linter.unusedVariables false
set_option linter.unnecessarySimpa false
namespace Go.Proofs.Ytmcfibpeenhcnaa
open Go Go.V

theorem c83z (b : Bk) (hv : BV b) (hn : b.say.length < 4294967296) (d : Int) : Ctr Try.prog 83 [DB b, .int d, .int 1, .int 0] (PR (chcN (dN b) (wids b d) (rig b d))) := by
  have k := c83 b hv hn d 1 0 (dN_bd hv).1 (by omega)
  rw [List.replicate_zero, List.append_nil] at k
  exact k

theorem c44 (b : Bk) (hn : b.say.length < 4294967296) (d : Int) : Ctr Try.prog 44 [DB b, .int d] (chaR b d) := by
  refine ctr_of_wp hmix Try.func44 m44 rfl ?_
  unfold v44 chaR
  simp -failIfUnchanged (disch := first | omega | (simp <;> omega) | fail) only [go_sem, simprocAttr]
  refine wcall (c16 b d) ?_
  simp -failIfUnchanged (disch := first | omega | (simp <;> omega) | fail) only [go_sem, simprocAttr]
  refine wcall (c78 b _ hn) ?_
  by_cases he : dE b d = 0
  · obtain ⟨hv, hi⟩ := ask_0 he
    have hd1 : decide (¬ dE b d = 0) = false := decide_eq_false (fun x => x he)
    simp only [he, if_true]
    simp -failIfUnchanged (disch := first | omega | (simp <;> omega) | fail) only [go_sem, simprocAttr]
    refine wcall (c83z b hv hn d) ?_
    simp -failIfUnchanged (disch := first | omega | (simp <;> omega) | fail) only [go_sem, simprocAttr]
    try simp
    try exact ⟨rfl, rfl⟩
  · have hd1 : decide (¬ dE b d = 0) = true := decide_eq_true he
    simp -failIfUnchanged (disch := first | omega | (simp <;> omega) | fail) only [go_sem, simprocAttr, hd1]
    simp [he]

theorem c45 (b : Bk) (hn : b.say.length < 4294967296) (d h : Int) : Ctr Try.prog 45 [DB b, .int d, .int h] (shwR b d h) := by
  refine ctr_of_wp hmix Try.func45 m45 rfl ?_
  unfold v45 shwR hE
  simp -failIfUnchanged (disch := first | omega | (simp <;> omega) | fail) only [go_sem, simprocAttr]
  refine wcall (c16 b d) ?_
  cases h1 : within d 0 (w64 (b.dow - 1)) with
  | false =>
    have he : askE b false ≠ 0 := by unfold askE; cases checkB b <;> simp
    have hd1 : decide (¬ askE b false = 0) = true := decide_eq_true he
    simp -failIfUnchanged (disch := first | omega | (simp <;> omega) | fail) only [go_sem, simprocAttr]
    refine wcall (c78 b _ hn) ?_
    simp -failIfUnchanged (disch := first | omega | (simp <;> omega) | fail) only [go_sem, simprocAttr, hd1]
    simp [he]
  | true =>
    simp -failIfUnchanged (disch := first | omega | (simp <;> omega) | fail) only [go_sem, simprocAttr]
    refine wcall (c40 h) ?_
    simp -failIfUnchanged (disch := first | omega | (simp <;> omega) | fail) only [go_sem, simprocAttr]
    refine wcall (c78 b _ hn) ?_
    by_cases he : askE b (within h 1 99) = 0
    · obtain ⟨hv, hi⟩ := ask_0 he
      rw [within_iff] at hi
      obtain ⟨q, rfl⟩ : ∃ q : Nat, h = q := ⟨h.toNat, by omega⟩
      obtain ⟨hD1, hD2, hD3⟩ := dN_bd hv
      have h43 := c43b (r := rig b d) hD2 (wids_le hv d) (by have := wids_6 hv d; omega) (h := q) (by omega)
      have hd1 : decide (¬ askE b (within (q : Int) 1 99) = 0) = false := decide_eq_false (fun x => x he)
      simp -failIfUnchanged (disch := first | omega | (simp <;> omega) | fail) only [go_sem, simprocAttr, hd1]
      refine wcall (c83z b hv hn d) ?_
      simp -failIfUnchanged (disch := first | omega | (simp <;> omega) | fail) only [go_sem, simprocAttr]
      refine wcall h43 ?_
      simp -failIfUnchanged (disch := first | omega | (simp <;> omega) | fail) only [go_sem, simprocAttr]
      simp [he]
    · have hd1 : decide (¬ askE b (within h 1 99) = 0) = true := decide_eq_true he
      simp -failIfUnchanged (disch := first | omega | (simp <;> omega) | fail) only [go_sem, simprocAttr, hd1]
      simp [he]

theorem c46 (b : Bk) (hn : b.say.length < 4294967296) (d w h : Int) : Ctr Try.prog 46 [DB b, .int d, .int w, .int h] (morR b d w h) := by
  refine ctr_of_wp hmix Try.func46 m46 rfl ?_
  unfold v46 morR mE
  simp -failIfUnchanged (disch := first | omega | (simp <;> omega) | fail) only [go_sem, simprocAttr]
  refine wcall (c16 b d) ?_
  have hee : askE b false ≠ 0 := by unfold askE; cases checkB b <;> simp
  have hd0 : decide (¬ askE b false = 0) = true := decide_eq_true hee
  cases h1 : within d 0 (w64 (b.dow - 1)) with
  | false =>
    simp -failIfUnchanged (disch := first | omega | (simp <;> omega) | fail) only [go_sem, simprocAttr]
    refine wcall (c78 b _ hn) ?_
    simp -failIfUnchanged (disch := first | omega | (simp <;> omega) | fail) only [go_sem, simprocAttr, hd0]
    simp [hee]
  | true =>
    simp -failIfUnchanged (disch := first | omega | (simp <;> omega) | fail) only [go_sem, simprocAttr]
    refine wcall (c40 h) ?_
    cases h2 : within h 1 99 with
    | false =>
      simp -failIfUnchanged (disch := first | omega | (simp <;> omega) | fail) only [go_sem, simprocAttr]
      refine wcall (c78 b _ hn) ?_
      simp -failIfUnchanged (disch := first | omega | (simp <;> omega) | fail) only [go_sem, simprocAttr, hd0]
      simp [hee]
    | true =>
      simp -failIfUnchanged (disch := first | omega | (simp <;> omega) | fail) only [go_sem, simprocAttr]
      refine wcall (c64 _ _ _) ?_
      simp -failIfUnchanged (disch := first | omega | (simp <;> omega) | fail) only [go_sem, simprocAttr]
      refine wcall (c78 b _ hn) ?_
      by_cases he : askE b (within w 1 b.depth) = 0
      · obtain ⟨hv, hi⟩ := ask_0 he
        have h2' := within_iff.1 h2
        obtain ⟨hD1, hD2, hD3⟩ := dN_bd hv
        have hd1 : decide (¬ askE b (within w 1 b.depth) = 0) = false := decide_eq_false (fun x => x he)
        rw [within_iff] at hi
        obtain ⟨q, rfl⟩ : ∃ q : Nat, h = q := ⟨h.toNat, by omega⟩
        obtain ⟨u, rfl⟩ : ∃ u : Nat, w = u := ⟨w.toNat, by omega⟩
        have hws := wids_le hv d
        have hw6 := wids_6 hv d
        have hrl : rig b d ≤ (wids b d).length := rigK_le b d b.say.length
        have hE2 : askE b (true && (true && within (u : Int) 1 b.depth)) = 0 := by simpa using he
        rw [he]
        simp only [Int.toNat_natCast, if_true]
        simp -failIfUnchanged (disch := first | omega | (simp <;> omega) | fail) only [go_sem, simprocAttr]
        refine wp_loop' Nat (fun k => ⟨[(1, .int d), (2, .int u), (3, .int q), (4, .ptr 4 0), (11, .int k)], [(4, ⟨[.int b.depth, IS b.found, .int b.dow, SL b.say, .int b.pence], false⟩)], [], none⟩) (fun k => k ≤ 7 ∧ ∀ j, j < k → morP b d u q j = false) (fun k => 7 - k) 0 (by simp) (by simp -failIfUnchanged (disch := first | omega | (simp <;> omega) | fail) only [go_sem, simprocAttr]; try simp) ?_
        rintro k ⟨hk, hpre⟩
        simp -failIfUnchanged (disch := first | omega | (simp <;> omega) | fail) only [go_sem, simprocAttr]
        refine wcond_dec (fun hc => ?_) (fun hc => ?_)
        · have hk7 : k < 7 := by omega
          have h83 := c83 b hv hn d u k (by omega) (by omega)
          have h43 := c43b (ws := wids b d ++ List.replicate k u) (r := rig b d + k) (h := q) hD2 (by
            intro w hw
            rcases List.mem_append.1 hw with hw | hw
            · exact hws w hw
            · have := (List.mem_replicate.1 hw).2
              omega) (by simp; omega) (by omega)
          change Ctr Try.prog 43 _ (.bool (morP b d u q k)) at h43
          simp -failIfUnchanged (disch := first | omega | (simp <;> omega) | fail) only [go_sem, simprocAttr]
          refine wcall h83 ?_
          simp -failIfUnchanged (disch := first | omega | (simp <;> omega) | fail) only [go_sem, simprocAttr]
          refine wcall h43 ?_
          simp -failIfUnchanged (disch := first | omega | (simp <;> omega) | fail) only [go_sem, simprocAttr]
          refine wcond_bool (fun h3 => ?_) (fun h3 => ?_)
          · rw [fst_hit hk7 hpre h3]
            simp -failIfUnchanged (disch := first | omega | (simp <;> omega) | fail) only [go_sem, simprocAttr]
          · simp -failIfUnchanged (disch := first | omega | (simp <;> omega) | fail) only [go_sem, simprocAttr]
            refine ⟨k + 1, ⟨by omega, fun j hj => ?_⟩, by dsimp only; omega, ?_⟩
            · rcases Nat.lt_or_ge j k with h4 | h4
              · exact hpre j h4
              · obtain rfl : j = k := by omega
                exact h3
            · simp -failIfUnchanged (disch := first | omega | (simp <;> omega) | fail) only [go_sem, simprocAttr]
              try simp
        · have e : k = 7 := by omega
          subst e
          rw [fst_none hpre]
          simp -failIfUnchanged (disch := first | omega | (simp <;> omega) | fail) only [go_sem, simprocAttr]
      · have hd1 : decide (¬ askE b (within w 1 b.depth) = 0) = true := decide_eq_true he
        simp -failIfUnchanged (disch := first | omega | (simp <;> omega) | fail) only [go_sem, simprocAttr, hd1]
        simp [he]

theorem morR_two (b : Bk) (d w h : Int) : ∃ x y : Int, morR b d w h = .tup [.int x, .int y] := by
  unfold morR
  split
  · split
    · exact ⟨_, _, rfl⟩
    · exact ⟨_, _, rfl⟩
  · exact ⟨_, _, rfl⟩

theorem c8 (b : Bk) (d w h : Int) : Ctr Try.prog 8 [DB b, .agg [.int d, .int w, .int h]] (.bool true) := by
  refine ctr_of_wp hmix Try.func8 m8 rfl ?_
  unfold v8
  simp -failIfUnchanged (disch := first | omega | (simp <;> omega) | fail) only [go_sem, simprocAttr]
  refine wcall (c33 b) ?_
  cases hh : hugeB b with
  | true =>
    simp -failIfUnchanged (disch := first | omega | (simp <;> omega) | fail) only [go_sem, simprocAttr]
    refine wcall c17 ?_
    simp -failIfUnchanged (disch := first | omega | (simp <;> omega) | fail) only [go_sem, simprocAttr]
  | false =>
    obtain ⟨h1, h2⟩ := huge_false hh
    have hn : b.say.length < 4294967296 := by omega
    have k1 := c26 b hn d
    have k2 := c44 b hn d
    have k3 := c42 b hn d h
    have k4 := c45 b hn d h
    have k5 := c41 b hn d w h
    have k6 := c46 b hn d w h
    obtain ⟨x, y, hxy⟩ := morR_two b d w h
    rw [hxy] at k5 k6
    unfold chaR at k1 k2
    unfold shwR at k3 k4
    generalize (if dE b d = 0 then chcN (dN b) (wids b d) (rig b d) else ⟨0, 0⟩) = u1 at *
    generalize dE b d = u2 at *
    generalize (if hE b d h = 0 then smallB (dN b) (wids b d) (rig b d) h.toNat else false) = u3 at *
    generalize hE b d h = u4 at *
    simp -failIfUnchanged (disch := first | omega | (simp <;> omega) | fail) only [go_sem, simprocAttr]
    refine wcall (c22 b (by omega) (by omega)) ?_
    simp -failIfUnchanged (disch := first | omega | (simp <;> omega) | fail) only [go_sem, simprocAttr]
    refine wcall k1 ?_
    simp -failIfUnchanged (disch := first | omega | (simp <;> omega) | fail) only [go_sem, simprocAttr]
    refine wcall k2 ?_
    simp -failIfUnchanged (disch := first | omega | (simp <;> omega) | fail) only [go_sem, simprocAttr]
    refine wcall k3 ?_
    simp -failIfUnchanged (disch := first | omega | (simp <;> omega) | fail) only [go_sem, simprocAttr]
    refine wcall k4 ?_
    simp -failIfUnchanged (disch := first | omega | (simp <;> omega) | fail) only [go_sem, simprocAttr]
    refine wcall k5 ?_
    simp -failIfUnchanged (disch := first | omega | (simp <;> omega) | fail) only [go_sem, simprocAttr]
    refine wcall k6 ?_
    simp -failIfUnchanged (disch := first | omega | (simp <;> omega) | fail) only [go_sem, simprocAttr, eq_self]
    refine wcall (c39 b (by omega) (by omega)) ?_
    simp -failIfUnchanged (disch := first | omega | (simp <;> omega) | fail) only [go_sem, simprocAttr]
    refine wcall c17 ?_
    simp -failIfUnchanged (disch := first | omega | (simp <;> omega) | fail) only [go_sem, simprocAttr]

end Go.Proofs.Ytmcfibpeenhcnaa

